/- Proved here: how a tree lies in memory with every slice of kids within its capacity. No condition. -/
import Derived.Test.YtljblaglfooclaaXm
namespace Go.Proofs.Ytljblaglfooclaa
open Go.RowKit
namespace X

mutual
/-- As Rd; each slice's length is within its capacity. -/
def Rc (w : World) (P : Nat → Prop) : X → Value → Prop
  | .mk _ _ _ _ r, s => ∃ A cap S, s = .slice A r.length cap ∧ r.length ≤ cap ∧ RowAt w P A r S ∧ RcL w P r S
def RcL (w : World) (P : Nat → Prop) : List X → List Value → Prop
  | [], S => S = []
  | x :: r, S => ∃ s S', S = s :: S' ∧ Rc w P x s ∧ RcL w P r S'
end
def Kc (w : World) (P : Nat → Prop) (r : List X) (s : Value) : Prop := ∃ A cap S, s = .slice A r.length cap ∧ r.length ≤ cap ∧ RowAt w P A r S ∧ RcL w P r S
theorem Rc.kids {w : World} {P : Nat → Prop} {x : X} {s : Value} (h : Rc w P x s) : Kc w P x.r s := by cases x; unfold Rc at h; exact h
theorem Kc.rc {w : World} {P : Nat → Prop} {x : X} {s : Value} (h : Kc w P x.r s) : Rc w P x s := by cases x; unfold Rc; exact h
theorem RcL.get {w : World} {P : Nat → Prop} : ∀ {r : List X} {S : List Value}, RcL w P r S → ∀ {i : Nat} (h : i < r.length), ∃ s, S[i]? = some s ∧ Rc w P r[i] s
  | x :: r, _, ⟨s, S', rfl, h0, _⟩, 0, _ => ⟨s, rfl, h0⟩
  | x :: r, _, ⟨s, S', rfl, _, h1⟩, i + 1, h => by
    obtain ⟨s', e, hs⟩ := h1.get (i := i) (by simpa using h)
    exact ⟨s', by simpa using e, by simpa using hs⟩
mutual
theorem Rc.keep {w w' : World} {P P' : Nat → Prop} (hk : ∀ p : Addr, P p.block → w'.cell? p = w.cell? p) (hP : ∀ b, P b → P' b) : ∀ {x : X} {s : Value}, Rc w P x s → Rc w' P' x s
  | .mk _ _ _ _ _, _, ⟨A, cap, S, e, hc, h0, h1⟩ => ⟨A, cap, S, e, hc, h0.keep hk hP, RcL.keep hk hP h1⟩
theorem RcL.keep {w w' : World} {P P' : Nat → Prop} (hk : ∀ p : Addr, P p.block → w'.cell? p = w.cell? p) (hP : ∀ b, P b → P' b) : ∀ {r : List X} {S : List Value}, RcL w P r S → RcL w' P' r S
  | [], _, h => h
  | _ :: _, _, ⟨s, S', e, h0, h1⟩ => ⟨s, S', e, Rc.keep hk hP h0, RcL.keep hk hP h1⟩
end
theorem Kc.keep {w w' : World} {P P' : Nat → Prop} {r : List X} {s : Value} (h : Kc w P r s) (hk : ∀ p : Addr, P p.block → w'.cell? p = w.cell? p) (hP : ∀ b, P b → P' b) : Kc w' P' r s := by
  obtain ⟨A, cap, S, e, hc, h0, h1⟩ := h
  exact ⟨A, cap, S, e, hc, h0.keep hk hP, RcL.keep hk hP h1⟩
theorem Kc.below {w w' : World} {P : Nat → Prop} {B : Nat} {r : List X} {s : Value} (h : Kc w P r s) (hb : Below B w w') (hP : ∀ b, P b → b < B) : Kc w' P r s :=
  h.keep (fun _ hp => hb.cell (hP _ hp)) (fun _ h => h)
theorem Kc.back {w W : World} {P : Nat → Prop} {B : Nat} {r : List X} {s : Value} (h : Kc W P r s) (hb : Below B w W) (hP : ∀ b, P b → b < B) : Kc w P r s :=
  h.keep (fun _ hp => (hb.cell (hP _ hp)).symm) (fun _ h => h)
theorem Kc.cap_ {w : World} {P : Nat → Prop} {r : List X} {A : Option Addr} {n cap : Nat} (h : Kc w P r (.slice A n cap)) : r.length ≤ cap := by
  obtain ⟨A', cap', S, e, hc, _, _⟩ := h
  simp only [Value.slice.injEq] at e
  obtain ⟨rfl, _, rfl⟩ := e
  exact hc
theorem Kc.at_ {w : World} {P : Nat → Prop} {r : List X} {A : Option Addr} {n cap : Nat} (h : Kc w P r (.slice A n cap)) {i : Nat} (hi : i < r.length) :
    ∃ b o s, A = some ⟨b, o, none⟩ ∧ P b ∧ Kc w P r[i].r s ∧ w.cell? ⟨b, o + i * 5, none⟩ = some (.int .i64 r[i].k) ∧ w.cell? ⟨b, o + i * 5 + 1, none⟩ = some (.string r[i].t) ∧
      w.cell? ⟨b, o + i * 5 + 2, none⟩ = some (.int .i64 r[i].n) ∧ w.cell? ⟨b, o + i * 5 + 3, none⟩ = some (.int .i64 r[i].l) ∧ w.cell? ⟨b, o + i * 5 + 4, none⟩ = some s := by
  obtain ⟨A', cap', S, e, _, h0, h1⟩ := h
  simp only [Value.slice.injEq] at e
  obtain ⟨rfl, _, rfl⟩ := e
  obtain ⟨s, es, hs⟩ := h1.get hi
  obtain ⟨b, o, rfl, hb, hc⟩ := h0 (by omega)
  have hc := hc i hi s es
  exact ⟨b, o, s, rfl, hb, hs.kids, hc 0 _ rfl, hc 1 _ rfl, hc 2 _ rfl, hc 3 _ rfl, hc 4 _ rfl⟩
theorem Kc.form {w : World} {P : Nat → Prop} {r : List X} {s : Value} (h : Kc w P r s) : ∃ A cap, s = .slice A r.length cap := by
  obtain ⟨A, cap, S, e, _, _, _⟩ := h
  exact ⟨A, cap, e⟩
theorem RcL.drop {w : World} {P : Nat → Prop} {r : List X} {S : List Value} (h : RcL w P r S) : RcL w P (r.drop 1) (S.drop 1) := by
  cases r with
  | nil => simp only [RcL] at h; subst h; simp [RcL]
  | cons x r =>
    obtain ⟨s, S', rfl, _, h1⟩ := h
    simpa using h1
/-- The kids behind the first. -/
theorem Kc.drop1 {w : World} {P : Nat → Prop} {r : List X} {b o n cap : Nat} (h : Kc w P r (.slice (some ⟨b, o, none⟩) n cap)) (h0 : 0 < r.length) :
    Kc w P (r.drop 1) (.slice (if cap = 1 then some ⟨b, o, none⟩ else some ⟨b, o + 5, none⟩) (r.drop 1).length (cap - 1)) := by
  obtain ⟨A', cap', S, e, hc, hr, h1⟩ := h
  simp only [Value.slice.injEq] at e
  obtain ⟨rfl, _, rfl⟩ := e
  refine ⟨_, _, S.drop 1, rfl, by rw [List.length_drop]; omega, fun hd => ?_, h1.drop⟩
  rw [List.length_drop] at hd
  rw [if_neg (by omega)]
  obtain ⟨b', o', e, hb, hcell⟩ := hr h0
  simp only [Option.some.injEq, Addr.mk.injEq] at e
  obtain ⟨rfl, rfl, -⟩ := e
  refine ⟨b, o + 5, rfl, hb, fun i hi s hs j u hu => ?_⟩
  have hi' : i + 1 < r.length := by rw [List.length_drop] at hi; omega
  have e1 : (r.drop 1)[i] = r[i + 1] := by simp
  rw [e1] at hu
  have := hcell (i + 1) hi' s (by rw [List.getElem?_drop, Nat.add_comm] at hs; exact hs) j u hu
  rw [show o + 5 + i * 5 + j = o + (i + 1) * 5 + j by omega]
  exact this
mutual
theorem Ow.rc {w : World} {B : Nat} {Q : Nat → Prop} : ∀ {x : X} {s : Value} {F : List Nat}, Ow w B x s F → (∀ b ∈ F, Q b) → Rc w Q x s
  | .mk _ _ _ _ r, s, _, ⟨S, G, h0, h1, rfl⟩, hQ => by
    have hl := h1.len
    have h2 := OwL.rcl h1 fun b hb => hQ b (List.mem_append.2 (.inr hb))
    rcases h0.2 with ⟨rfl, h⟩ | ⟨g, cap, cur, rfl, hg, hh, hnc, rest⟩
    · exact ⟨none, 0, S, by rw [h], by omega, fun hr => by omega, h2⟩
    · refine ⟨some ⟨g, 0, none⟩, cap, S, rfl, hnc, fun hr => ⟨g, 0, rfl, hQ g (by simp [blkL, Value.ownBlock]), fun i hi s hs j u hu => ?_⟩, h2⟩
      have hj : j < 5 := by
        rcases Nat.lt_or_ge j 5 with h | h
        · exact h
        · rw [List.getElem?_eq_none (by simpa [cells5] using h)] at hu; cases hu
      have hc := h0.cells (g := g) rfl (i * 5 + j) u (by rw [rowV_get hi hs j hj]; exact hu)
      have e : (⟨g, 0, none⟩ : Addr).add (i * 5 + j) = ⟨g, 0 + i * 5 + j, none⟩ := by unfold Addr.add; split <;> simp_all
      rw [← e]; exact hc
theorem OwL.rcl {w : World} {B : Nat} {Q : Nat → Prop} : ∀ {r : List X} {S : List Value} {F : List Nat}, OwL w B r S F → (∀ b ∈ F, Q b) → RcL w Q r S
  | [], _, _, h, _ => h.1
  | _ :: _, _, _, ⟨s, S', f, F', e, rfl, h0, h1⟩, hQ => ⟨s, S', e, Ow.rc h0 fun b hb => hQ b (List.mem_append.2 (.inl hb)), OwL.rcl h1 fun b hb => hQ b (List.mem_append.2 (.inr hb))⟩
end
theorem Ok.kc {w : World} {B : Nat} {Q : Nat → Prop} {r : List X} {s : Value} {F : List Nat} (h : Ok w B r s F) (hQ : ∀ b ∈ F, Q b) : Kc w Q r s :=
  (Ow.rc (x := .mk 0 ⟨#[]⟩ 0 0 r) h hQ).kids
end X
end Go.Proofs.Ytljblaglfooclaa
