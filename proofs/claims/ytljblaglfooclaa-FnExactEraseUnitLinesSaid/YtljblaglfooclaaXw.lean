/- Proved here: small facts for the laws on trees: how worlds grow, which cells last. No condition. -/
import Derived.Test.YtljblaglfooclaaXo
import Derived.Test.YtljblaglfooclaaTo
import Derived.Test.YtljblaglfooclaaEq
namespace Go.Proofs.Ytljblaglfooclaa
open Go.RowKit
namespace X

theorem grow {w W w' : World} (h : Below w.heap.size w W) (h1 : Below W.heap.size W w') : Below w.heap.size w w' := h.trans (h1.mono h.size)
/-- toExpr in any later world. -/
theorem toX_at {x : X} {s : Value} {w : World} (hr : Rd w (· < w.heap.size) x s) (hs : siz x ≤ 1048576) (W : World) (hW : Below w.heap.size w W) :
    Calls Try.prog 38 #[val x s] W fun e w' => ∃ A cap F, e = .returned (val x (.slice A x.r.length cap)) ∧ Ok w' W.heap.size x.r (.slice A x.r.length cap) F ∧ F.Nodup ∧ Below W.heap.size W w' :=
  (toX x s (· < w.heap.size) W (hr.below hW fun _ h => h) (fun _ h => Nat.lt_of_lt_of_le h hW.size) (by omega)).mono fun e w' ⟨s', F, he, hk, hn, hb⟩ => by
    obtain ⟨A, cap, rfl⟩ := hk.form
    exact ⟨A, cap, F, he, hk, hn, hb⟩
theorem sz_yes {x : X} {s : Value} {w : World} (hr : Rd w (· < w.heap.size) x s) (hw : Wf x) {left : Nat} (hl : left ≤ 1048576) (hs : siz x ≤ left) (W : World) (hW : Below w.heap.size w W) :
    Calls Try.prog 37 #[val x s, .int .i64 (left : Int)] W fun e w' => e = .returned (.int .i64 ((left - siz x : Nat) : Int)) ∧ Below W.heap.size W w' :=
  (szX x s (· < w.heap.size) W left (hr.below hW fun _ h => h) (fun _ h => Nat.lt_of_lt_of_le h hW.size) hw (by omega)).mono fun e w' h => by rw [leftOf_yes hs] at h; exact h
theorem sz_not {x : X} {s : Value} {w : World} (hr : Rd w (· < w.heap.size) x s) (hw : Wf x) {left : Nat} (hl : left ≤ 1048576) (hs : ¬ siz x ≤ left) (W : World) (hW : Below w.heap.size w W) :
    Calls Try.prog 37 #[val x s, .int .i64 (left : Int)] W fun e w' => e = .returned (.int .i64 (-1)) ∧ Below W.heap.size W w' :=
  (szX x s (· < w.heap.size) W left (hr.below hW fun _ h => h) (fun _ h => Nat.lt_of_lt_of_le h hW.size) hw (by omega)).mono fun e w' h => by rw [leftOf_no hs] at h; exact h
theorem Ok.rd_at {w W : World} {B : Nat} {x : X} {s : Value} {F : List Nat} (h : Ok w B x.r s F) (hb : Below w.heap.size w W) : Rd W (· < w.heap.size) x s :=
  (((h.kd (Q := (· < w.heap.size)) fun b hf => (h.lt b hf).2)).below hb fun _ h => h).rd
theorem Ok.rd_in {w W : World} {B : Nat} {x : X} {s : Value} {F : List Nat} (h : Ok w B x.r s F) (hb : Below w.heap.size w W) : Rd W (· < W.heap.size) x s :=
  Rd.keep (fun _ _ => rfl) (fun _ hp => Nat.lt_of_lt_of_le hp hb.size) (h.rd_at hb)
/-- eqExpr of two copies of one tree. -/
theorem eq_copy {x : X} (hw : Wf x) (W W1 W2 : World) (s1 s2 : Value) (B1 B2 : Nat) (F1 F2 : List Nat) (h1 : Ok W1 B1 x.r s1 F1) (hb1 : Below W1.heap.size W1 W) (h2 : Ok W2 B2 x.r s2 F2) (hb2 : Below W2.heap.size W2 W) :
    Calls Try.prog 39 #[val x s1, val x s2] W fun e w' => e = .returned (.bool true) ∧ Below W.heap.size W w' :=
  (eqX x x s1 s2 (· < W.heap.size) W (h1.rd_in hb1) (h2.rd_in hb2) (fun _ h => h) hw).mono fun e w' h => by rw [eqB_self] at h; exact h
theorem keep10 {w w' : World} {g g' : Nat} {k k' : Int} {t t' : ByteArray} {n l n' l' : Int} {s s' : Value} (h : Var w g k t n l s) (h' : Var w g' k' t' n' l' s') (hb : Below w.heap.size w w') :
    w'.cell? ⟨g, 0, none⟩ = some (.int .i64 k) ∧ w'.cell? ⟨g, 1, none⟩ = some (.string t) ∧ w'.cell? ⟨g, 2, none⟩ = some (.int .i64 n) ∧ w'.cell? ⟨g, 3, none⟩ = some (.int .i64 l) ∧ w'.cell? ⟨g, 4, none⟩ = some s ∧
    w'.cell? ⟨g', 0, none⟩ = some (.int .i64 k') ∧ w'.cell? ⟨g', 1, none⟩ = some (.string t') ∧ w'.cell? ⟨g', 2, none⟩ = some (.int .i64 n') ∧ w'.cell? ⟨g', 3, none⟩ = some (.int .i64 l') ∧ w'.cell? ⟨g', 4, none⟩ = some s' := by
  obtain ⟨a0, a1, a2, a3, a4⟩ := h.kept hb
  obtain ⟨b0, b1, b2, b3, b4⟩ := h'.kept hb
  exact ⟨a0, a1, a2, a3, a4, b0, b1, b2, b3, b4⟩
end X
end Go.Proofs.Ytljblaglfooclaa
