/- Proved here: what the reference's draw of an expression gives: some tree of its own that is not great; only the cursor's block has turned. Condition: the code's bytes can be read. -/
import Derived.Test.YtanmkeoieckebaaDoorLi
import Derived.Test.YtanmkeoieckebaaDoorKk
import Derived.Test.YtanmkeoieckebaaDoorCt
import Derived.Test.YtanmkeoieckebaaDoorEr
import Derived.Deep.DeepCutAuto
namespace Go.Proofs.YtanmkeoieckebaaDoor
open Go.RowKit
namespace X

/-- The most that a drawn tree of depth d may weigh. -/
def bd : Nat → Nat | 0 => 128 | 1 => 128 | d + 2 => 11 + 6 * bd (d + 1)
theorem bd_mono : ∀ d, bd d ≤ bd (d + 1)
  | 0 => by decide
  | d + 1 => by show bd (d + 1) ≤ 11 + 6 * bd (d + 1); omega
theorem bd_le {a b : Nat} (h : a ≤ b) : bd a ≤ bd b := by
  induction b with
  | zero => obtain rfl : a = 0 := by omega
            exact Nat.le_refl _
  | succ b ih =>
    rcases Nat.lt_or_ge a (b + 1) with h1 | h1
    · exact Nat.le_trans (ih (by omega)) (bd_mono b)
    · obtain rfl : a = b + 1 := by omega
      exact Nat.le_refl _
/-- A drawn tree. -/
def Tr (d : Nat) (x : X) : Prop := Wf x ∧ siz x ≤ bd d
/-- What the draw gives: some drawn tree in blocks of its own. -/
def TreeP (d g : Nat) (w : World) (e : Ending) (w' : World) : Prop := ∃ x s, Tr d x ∧ e = .returned (val x s) ∧ Rd w' (fun b => w.heap.size ≤ b ∧ b < w'.heap.size) x s ∧ Cur w' g ∧ w.grownBy w' (some g)
theorem leafP {d g : Nat} {w W : World} {k : Int} {t : ByteArray} {n : Int} (hd : 128 ≤ bd d) (hk : -100 ≤ k ∧ k ≤ 100) (ht : t.size ≤ 128) (hn : -9223372036854775808 ≤ n ∧ n ≤ 9223372036854775807) (hc : Cur W g) (hg : w.grownBy W (some g)) :
    TreeP d g w (.returned (.agg #[.int .i64 k, .string t, .int .i64 n, .int .i64 0, .slice none 0 0])) W :=
  ⟨.mk k t n 0 [], .slice none 0 0, ⟨⟨by omega, by unfold maxLen; omega, hn, by omega, by simp, trivial⟩, by simp [siz, X.sizL]; omega⟩, rfl, ⟨none, 0, [], rfl, fun h => by simp at h, rfl⟩, hc, hg⟩
theorem leafP5 {d g : Nat} {w W : World} {k : Int} {t : ByteArray} {n : Int} (hd : 128 ≤ bd d) (hk : -100 ≤ k ∧ k ≤ 100) (ht : t.size ≤ 128) (hn : -9223372036854775808 ≤ n ∧ n ≤ 9223372036854775807) (hgl : g < w.heap.size) (hc : Cur W g) (hg : w.grownBy W (some g)) (a0 a1 a2 a3 a4 : Value) :
    TreeP d g w (.returned (.agg #[.int .i64 k, .string t, .int .i64 n, .int .i64 0, .slice none 0 0])) (((((W.setCell ⟨w.heap.size, 0, none⟩ a0).setCell ⟨w.heap.size, 1, none⟩ a1).setCell ⟨w.heap.size, 2, none⟩ a2).setCell ⟨w.heap.size, 3, none⟩ a3).setCell ⟨w.heap.size, 4, none⟩ a4) :=
  leafP hd hk ht hn (((((hc.far (p := ⟨w.heap.size, 0, none⟩) hgl a0).far (p := ⟨w.heap.size, 1, none⟩) hgl a1).far (p := ⟨w.heap.size, 2, none⟩) hgl a2).far (p := ⟨w.heap.size, 3, none⟩) hgl a3).far (p := ⟨w.heap.size, 4, none⟩) hgl a4)
    (only_new (p := ⟨w.heap.size, 4, none⟩) (only_new (p := ⟨w.heap.size, 3, none⟩) (only_new (p := ⟨w.heap.size, 2, none⟩) (only_new (p := ⟨w.heap.size, 1, none⟩) (only_new (p := ⟨w.heap.size, 0, none⟩) hg (Nat.le_refl _) a0) (Nat.le_refl _) a1) (Nat.le_refl _) a2) (Nat.le_refl _) a3) (Nat.le_refl _) a4)
theorem TreeP.mono {d d' g : Nat} {w w' : World} {e : Ending} (h : TreeP d g w e w') (hd : d ≤ d') : TreeP d' g w e w' := by
  obtain ⟨x, s, ⟨h1, h2⟩, h3⟩ := h
  exact ⟨x, s, ⟨h1, Nat.le_trans h2 (bd_le hd)⟩, h3⟩
/-- Trees collected: the row, and the kids in blocks that are not the row's. -/
def TrR (B : Nat) (L : List X) (v : Value) (wr : World) : Prop := ∃ S, wr.ownsRow B 29 5 v L.length (rowV L S) ∧ S.length = L.length ∧ RdL wr (fun b => B ≤ b ∧ b < wr.heap.size ∧ some b ≠ v.ownBlock) L S
theorem TrR.start (B : Nat) (wr : World) : TrR B [] (.slice none 0 0) wr := ⟨[], World.ownsRow_nil _ _ _ _, rfl, rfl⟩
theorem RdL.append {w : World} {P : Nat → Prop} : ∀ {r : List X} {S : List Value}, RdL w P r S → ∀ {r' : List X} {S' : List Value}, RdL w P r' S' → RdL w P (r ++ r') (S ++ S')
  | [], _, h, r', S', h' => by simp only [RdL] at h; subst h; simpa using h'
  | _ :: _, _, ⟨s, S', e, h0, h1⟩, _, _, h' => ⟨s, _, by rw [e]; rfl, h0, h1.append h'⟩
theorem own_keep {w w' : World} {B n : Nat} {v : Value} {xs : List Value} (h : w.ownsRow B 29 5 v n xs) (hk : ∀ b, v.ownBlock = some b → w'.heap[b]? = w.heap[b]?) : w'.ownsRow B 29 5 v n xs := by
  refine ⟨h.1, ?_⟩
  rcases h.2 with h | ⟨g, cap, cur, rfl, hg, hh, rest⟩
  · exact .inl h
  · exact .inr ⟨g, cap, cur, rfl, hg, (hk g rfl).trans hh, rest⟩
theorem TrR.next {B g : Nat} {L : List X} {v : Value} {wr w1 w2 w3 : World} {S : List Value} {x : X} {s1 : Value} {g' cap' n : Nat} (hn : L.length = n)
    (hS : S.length = L.length) (h1 : RdL wr (fun b => B ≤ b ∧ b < wr.heap.size ∧ some b ≠ v.ownBlock) L S) (hv : ∀ b, v.ownBlock = some b → b < wr.heap.size)
    (hg : wr.grownBy w1 (some g)) (hgB : g < B) (hx : Rd w1 (fun b => wr.heap.size ≤ b ∧ b < w1.heap.size) x s1) (hBr : B ≤ wr.heap.size)
    (h3 : w2.ownsRow B 29 5 (.slice (some ⟨g', 0, none⟩) (n + 1) cap') (n + 1) (rowV L S ++ cells5 x s1)) (h4 : w1.grownBy w2 v.ownBlock) (h5 : v.ownBlock = some g' ∨ w1.heap.size < g')
    (h6 : ∀ b, B ≤ b → w3.heap[b]? = w2.heap[b]?) (h7 : w3.heap.size = w2.heap.size) : TrR B (L ++ [x]) (.slice (some ⟨g', 0, none⟩) (n + 1) cap') w3 := by
  subst hn
  have hrow : rowV L S ++ cells5 x s1 = rowV (L ++ [x]) (S ++ [s1]) := by rw [rowV_append _ _ hS]; simp [rowV]
  rw [hrow] at h3
  have hz1 := hg.size
  have hz2 := h4.size
  have same : ∀ b, B ≤ b → b < w1.heap.size → some b ≠ v.ownBlock → w3.heap[b]? = w1.heap[b]? := fun b h8 h9 h10 => (h6 b h8).trans (h4.block b h9 h10)
  have hg' : B ≤ g' := (h3.lt g' rfl).1
  refine ⟨S ++ [s1], ?_, by simp [hS], RdL.append ?_ ⟨s1, [], rfl, ?_, rfl⟩⟩
  · have := own_keep (w' := w3) h3 fun b hb => h6 b (h3.lt b hb).1
    simpa using this
  · refine RdL.keep (fun p hp => World.cell?_of_block ?_) (fun b hb => ?_) h1
    · obtain ⟨ha, hb, hc⟩ := hp
      exact (same p.block ha (by omega) hc).trans (hg.block p.block hb (by simp; omega))
    · obtain ⟨ha, hb, hc⟩ := hb
      refine ⟨ha, by omega, fun e => ?_⟩
      obtain rfl : b = g' := by simpa [Value.ownBlock] using e
      rcases h5 with h5 | h5
      · exact hc h5.symm
      · omega
  · refine Rd.keep (fun p hp => World.cell?_of_block ?_) (fun b hb => ?_) hx
    · obtain ⟨ha, hb⟩ := hp
      refine same p.block (by omega) hb fun e => ?_
      have := hv _ e.symm
      omega
    · obtain ⟨ha, hb⟩ := hb
      refine ⟨by omega, by omega, fun e => ?_⟩
      obtain rfl : b = g' := by simpa [Value.ownBlock] using e
      rcases h5 with h5 | h5
      · have := hv _ h5; omega
      · omega
theorem TrR.kd {B : Nat} {L : List X} {v : Value} {wr : World} (h : TrR B L v wr) : Kd wr (fun b => B ≤ b ∧ b < wr.heap.size) L v := by
  obtain ⟨S, h0, hS, h2⟩ := h
  have h2' := RdL.keep (P' := fun b => B ≤ b ∧ b < wr.heap.size) (fun _ _ => rfl) (fun b hb => ⟨hb.1, hb.2.1⟩) h2
  rcases h0.2 with ⟨rfl, h⟩ | ⟨g, cap, cur, rfl, hg, hh, rest⟩
  · exact ⟨none, 0, S, by rw [h], fun hr => by omega, h2'⟩
  · refine ⟨some ⟨g, 0, none⟩, cap, S, rfl, fun hr => ⟨g, 0, rfl, h0.lt g rfl, fun i hi s hs j u hu => ?_⟩, h2'⟩
    have hj : j < 5 := by
      rcases Nat.lt_or_ge j 5 with h | h
      · exact h
      · rw [List.getElem?_eq_none (by simpa [cells5] using h)] at hu; cases hu
    have hc := h0.cells (g := g) rfl (i * 5 + j) u (by rw [rowV_get hi hs j hj]; exact hu)
    have e : (⟨g, 0, none⟩ : Addr).add (i * 5 + j) = ⟨g, 0 + i * 5 + j, none⟩ := by unfold Addr.add; split <;> simp_all
    rw [← e]; exact hc
theorem Tr.sizL {d : Nat} : ∀ {L : List X}, (∀ x ∈ L, Tr d x) → WfL L ∧ X.sizL L ≤ L.length * bd d
  | [], _ => ⟨trivial, by simp [X.sizL]⟩
  | x :: L, h => by
    have h1 := h x (by simp)
    have h2 := Tr.sizL (L := L) fun y hy => h y (by simp [hy])
    refine ⟨⟨h1.1, h2.1⟩, ?_⟩
    have := h1.2
    have := h2.2
    simp only [X.sizL, List.length_cons, Nat.succ_mul]
    omega
theorem Tr.node {d : Nat} {L : List X} (h : ∀ x ∈ L, Tr (d + 1) x) (hl : L.length ≤ 6) {k : Int} {t : ByteArray} {n : Int} (hk : -100 ≤ k ∧ k ≤ 100) (ht : t.size ≤ 5) (hn : 0 ≤ n ∧ n ≤ 9) : Tr (d + 2) (.mk k t n 0 L) := by
  obtain ⟨h1, h2⟩ := Tr.sizL h
  refine ⟨⟨by omega, by unfold maxLen; omega, by omega, by omega, by unfold maxLen; omega, h1⟩, ?_⟩
  have h3 : L.length * bd (d + 1) ≤ 6 * bd (d + 1) := Nat.mul_le_mul_right _ hl
  show t.size + (L.length + X.sizL L) ≤ 11 + 6 * bd (d + 1)
  omega
def k100 (z : Int) : Bool := decide (-100 ≤ z) && decide (z ≤ 100)
theorem k100_iff {z : Int} (h : k100 z = true) : -100 ≤ z ∧ z ≤ 100 := by simpa [k100] using h
theorem csetT_size (a b : Int) : (txt (csetL a b)) = .string ⟨(csetL a b).toArray⟩ ∧ (⟨(csetL a b).toArray⟩ : ByteArray).size ≤ 128 :=
  ⟨rfl, csetPre_len a b 128⟩
set_option maxHeartbeats 4000000 in
theorem l4Text12 (g : Nat) (w : World) (hc : Cur w g) : Calls Tryd.prog 152 #[.pointer (some ⟨g, 0, none⟩)] w (TextP (fun t => t.size ≤ 128) g w) := by
  go_enter Tryd.func152, Tryd.ntmps152
  go_wp2_with (go_at_call 84; refine Calls.mono (l1PickLit sz12 rfl hc (by decide) rfl (by omega) (by omega)) ?_; rintro e w1 ⟨t, ht, rfl, hc1, hg1⟩; have hts : t.size ≤ 12 := (by simpa [sz12] using ht); clear ht)
  go_ret
  exact ⟨t, by show t.size ≤ 128; omega, rfl, hc1, only_trans (only_alloc (only_refl w (some g)) _) hg1⟩
end X
end Go.Proofs.YtanmkeoieckebaaDoor
