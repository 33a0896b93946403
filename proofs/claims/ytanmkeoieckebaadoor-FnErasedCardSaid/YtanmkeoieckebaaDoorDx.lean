/- Proved here: more of the reference's draws: picks out of written-out lists, whole numbers, words, indexes, sets. Condition: the cursor lies in a block of its own. -/
import Derived.Test.YtanmkeoieckebaaDoorDw
import Derived.Test.YtanmkeoieckebaaDoorTx
namespace Go.Proofs.YtanmkeoieckebaaDoor
open Go.RowKit

/-- All values of a list are texts that meet f. -/
def allT (f : ByteArray → Bool) (cs : List Value) : Bool := cs.all fun v => match v with | .string t => f t | _ => false
def allI (f : Int → Bool) (cs : List Value) : Bool := cs.all fun v => match v with | .int .i64 z => f z | _ => false
theorem allT_get {f : ByteArray → Bool} {cs : Array Value} (h : allT f cs.toList = true) {i : Nat} (hi : i < cs.size) : ∃ t, cs[i]? = some (.string t) ∧ f t = true := by
  have h1 := List.all_eq_true.1 h cs[i] (by simp)
  have e : cs[i]? = some cs[i] := Array.getElem?_eq_getElem hi
  revert h1 e
  generalize cs[i] = v
  intro h1 e
  cases v with
  | string t => exact ⟨_, e, h1⟩
  | _ => exact absurd h1 (by simp)
theorem allI_get {f : Int → Bool} {cs : Array Value} (h : allI f cs.toList = true) {i : Nat} (hi : i < cs.size) : ∃ z, cs[i]? = some (.int .i64 z) ∧ f z = true := by
  have h1 := List.all_eq_true.1 h cs[i] (by simp)
  have e : cs[i]? = some cs[i] := Array.getElem?_eq_getElem hi
  revert h1 e
  generalize cs[i] = v
  intro h1 e
  cases v with
  | int k z =>
    cases k with
    | i64 => exact ⟨_, e, h1⟩
    | _ => exact absurd h1 (by simp)
  | _ => exact absurd h1 (by simp)
set_option maxHeartbeats 4000000 in
/-- A pick out of a written-out list of texts. -/
theorem l1PickLit (f : ByteArray → Bool) {cs : Array Value} {n g G : Nat} {w : World} {T : TypeId} (hG : G = w.heap.size) (hc : Cur w g) (hall : allT f cs.toList = true) (hn : n = cs.size) (h0 : 0 < n) (hm : n ≤ 1000) :
    Calls Tryd.prog 84 #[.pointer (some ⟨g, 0, none⟩), .slice (some ⟨G, 0, none⟩) n n] (w.alloc (.cells cs T)) (TextP (fun t => f t = true) g (w.alloc (.cells cs T))) := by
  subst hG
  have hc' := hc.kept ((Below.refl _ _).alloc (Nat.le_refl _) (.cells cs T))
  have hgl := hc.lt
  have HC : Hid (∀ i, i < n → ∃ t, (w.alloc (.cells cs T)).cell? ⟨w.heap.size, i, none⟩ = some (.string t) ∧ f t = true) := Lib.hid fun i hi => by
    rw [World.cell?_alloc_at _ _ _ _ rfl]
    exact allT_get hall (by omega)
  generalize hW : w.alloc (.cells cs T) = W at hc' HC
  clear hall hW hn
  go_enter Tryd.func84, Tryd.ntmps84
  go_wp2_with (go_at_call 68; refine (l1Below n h0 (by omega) g _ hc').mono ?_; rintro e w1 ⟨x, hx, rfl, hc1, hg1⟩; have i0 : (x : Int) < (n : Int) := (by omega); obtain ⟨t, c, hft⟩ := HC.out x hx; have HF := Lib.hid hft; clear hft; have c0 := hg1.cell c (by simp; omega))
  go_ret
  exact ⟨_, HF.out, rfl, hc1, hg1⟩
def sz12 (t : ByteArray) : Bool := decide (t.size ≤ 12)
/-- A short word. -/
def W130 (t : ByteArray) : Prop := t.size ≤ 130
theorem textP_of {g : Nat} {w w' : World} {t : ByteArray} (ht : t.size ≤ 130) (hc : Cur w' g) (hg : w.grownBy w' (some g)) : TextP W130 g w (.returned (.string t)) w' := ⟨t, ht, rfl, hc, hg⟩
theorem rep_size (n : Nat) (x : UInt8) : (⟨Array.replicate n x⟩ : ByteArray).size = n := by
  show (Array.replicate n x).size = n
  simp
/-- Some whole number that meets Q. -/
def IntP (Q : Int → Prop) (g : Nat) (w : World) (e : Ending) (w' : World) : Prop := ∃ z, Q z ∧ e = .returned (.int .i64 z) ∧ Cur w' g ∧ w.grownBy w' (some g)
set_option maxHeartbeats 4000000 in
theorem l1PickIntLit (f : Int → Bool) {cs : Array Value} {n g G : Nat} {w : World} {T : TypeId} (hG : G = w.heap.size) (hc : Cur w g) (hall : allI f cs.toList = true) (hn : n = cs.size) (h0 : 0 < n) (hm : n ≤ 1000) :
    Calls Tryd.prog 130 #[.pointer (some ⟨g, 0, none⟩), .slice (some ⟨G, 0, none⟩) n n] (w.alloc (.cells cs T)) (IntP (fun z => f z = true) g (w.alloc (.cells cs T))) := by
  subst hG
  have hc' := hc.kept ((Below.refl _ _).alloc (Nat.le_refl _) (.cells cs T))
  have hgl := hc.lt
  have HC : Hid (∀ i, i < n → ∃ t, (w.alloc (.cells cs T)).cell? ⟨w.heap.size, i, none⟩ = some (.int .i64 t) ∧ f t = true) := Lib.hid fun i hi => by
    rw [World.cell?_alloc_at _ _ _ _ rfl]
    exact allI_get hall (by omega)
  generalize hW : w.alloc (.cells cs T) = W at hc' HC
  clear hall hW hn
  go_enter Tryd.func130, Tryd.ntmps130
  go_wp2_with (go_at_call 68; refine (l1Below n h0 (by omega) g _ hc').mono ?_; rintro e w1 ⟨x, hx, rfl, hc1, hg1⟩; have i0 : (x : Int) < (n : Int) := (by omega); obtain ⟨t, c, hft⟩ := HC.out x hx; have HF := Lib.hid hft; clear hft; have c0 := hg1.cell c (by simp; omega))
  go_ret
  exact ⟨_, HF.out, rfl, hc1, hg1⟩
/-- Whole numbers of 64 bits. -/
def I64 (z : Int) : Prop := -9223372036854775808 ≤ z ∧ z ≤ 9223372036854775807
theorem intP_of {g : Nat} {w w' : World} {z : Int} (hz : I64 z) (hc : Cur w' g) (hg : w.grownBy w' (some g)) : IntP I64 g w (.returned (.int .i64 z)) w' := ⟨z, hz, rfl, hc, hg⟩
def i64B (z : Int) : Bool := decide (-9223372036854775808 ≤ z) && decide (z ≤ 9223372036854775807)
theorem i64B_iff {z : Int} (h : i64B z = true) : I64 z := by simpa [i64B, I64] using h
set_option maxHeartbeats 4000000 in
theorem l1Whole (g : Nat) (w : World) (hc : Cur w g) : Calls Tryd.prog 163 #[.pointer (some ⟨g, 0, none⟩)] w (IntP I64 g w) := by
  go_enter Tryd.func163, Tryd.ntmps163
  go_upto_region 2 with (go_at_call 68; refine (l1Below 3 (by omega) (by omega) g _ hc).mono ?_; rintro e w1 ⟨x, hx, rfl, hc1, hg1⟩)
  by_cases h0 : x = 0
  · subst h0
    go_wp2_with (go_at_call 130; refine Calls.mono (l1PickIntLit i64B rfl hc1 (by decide) rfl (by omega) (by omega)) ?_; rintro e w2 ⟨z, hz, rfl, hc2, hg2⟩)
    go_ret
    exact intP_of (i64B_iff hz) hc2 (only_trans hg1 (only_trans (only_alloc (only_refl _ _) _) hg2))
  · have b0 : ((x : Int) == 0) = false := by rw [beq_eq_false_iff_ne]; omega
    by_cases h1 : x = 1
    · subst h1
      go_wp2_with (go_at_call 68; refine (l1Below 1000000 (by omega) (by omega) g _ hc1).mono ?_; rintro e w2 ⟨y, hy, rfl, hc2, hg2⟩)
      go_ret
      exact intP_of ⟨by omega, by omega⟩ hc2 (only_trans hg1 hg2)
    · have b1 : ((x : Int) == 1) = false := by rw [beq_eq_false_iff_ne]; omega
      clear h0 h1
      go_wp2_with (go_at_call 68; refine (l1Below 20 (by omega) (by omega) g _ hc1).mono ?_; rintro e w2 ⟨y, hy, rfl, hc2, hg2⟩)
      go_ret
      exact intP_of ⟨by omega, by omega⟩ hc2 (only_trans hg1 hg2)
end Go.Proofs.YtanmkeoieckebaaDoor
