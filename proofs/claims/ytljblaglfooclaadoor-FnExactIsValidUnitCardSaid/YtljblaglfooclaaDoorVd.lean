/- Proved here: what the reference's test of a tree gives. Condition: the tree has at most 2^20 letters and kids. -/
import Derived.Test.YtljblaglfooclaaDoorVn
namespace Go.Proofs.YtljblaglfooclaaDoor
open Go.RowKit
namespace X

theorem okD_bad {W : Int → ByteArray → Bool} {k : Int} {t : ByteArray} {n l : Int} {r : List X} {d : Nat} (h : ¬ (d ≤ 40 ∧ 1 ≤ k ∧ k ≤ 29 ∧ (kidsR k).1 ≤ r.length ∧ r.length ≤ (kidsR k).2 ∧ 0 ≤ l)) : vldD W (.mk k t n l r) d = false := by
  rw [vldD, okNode]
  by_cases hd : d ≤ 40
  · rw [decide_eq_false (fun h2 => h ⟨hd, h2⟩)]; simp
  · rw [decide_eq_false hd]; rfl
theorem okD_word {W : Int → ByteArray → Bool} {k : Int} {t : ByteArray} {n l : Int} {r : List X} {d : Nat} (h : (W k t && numOk k n r.length) = false) : vldD W (.mk k t n l r) d = false := by
  rw [vldD, okNode, h]; simp
theorem okD_good {W : Int → ByteArray → Bool} {k : Int} {t : ByteArray} {n l : Int} {r : List X} {d : Nat} (h : d ≤ 40 ∧ 1 ≤ k ∧ k ≤ 29 ∧ (kidsR k).1 ≤ r.length ∧ r.length ≤ (kidsR k).2 ∧ 0 ≤ l) (h2 : W k t = true) (h3 : numOk k n r.length = true) : vldD W (.mk k t n l r) d = vldDL W r (d + 1) := by
  rw [vldD, okNode, decide_eq_true h.2, h2, h3, decide_eq_true h.1]; rfl
/-- The ways in which a number fits, and does not. -/
theorem num_ways (k n : Int) (len : Nat) (hl : 1 ≤ len ∨ k ≠ 20) :
    (numOk k n len = false ∧ ((k = 1 ∧ n < 0) ∨ (k = 1 ∧ 0 ≤ n ∧ 999999999999 < n) ∨ (k = 20 ∧ n < 0) ∨ (k = 20 ∧ 1 < n) ∨ (k = 20 ∧ n = 0 ∧ ∃ m : Nat, (len : Int) - 1 = (m : Int) ∧ ((m : Int) % 2 == 0) = false) ∨ (k = 20 ∧ n = 1 ∧ len ≤ 1) ∨ (k = 20 ∧ n = 1 ∧ ∃ m : Nat, (len : Int) - 1 - 1 = (m : Int) ∧ ((m : Int) % 2 == 0) = false ∧ 2 ≤ len) ∨ (k ≠ 1 ∧ k ≠ 20 ∧ (n == 0) = false))) ∨
    (numOk k n len = true ∧ ((k = 1 ∧ 0 ≤ n ∧ n ≤ 999999999999) ∨ (k = 20 ∧ n = 0 ∧ ∃ m : Nat, (len : Int) - 1 = (m : Int) ∧ ((m : Int) % 2 == 0) = true) ∨ (k = 20 ∧ n = 1 ∧ ∃ m : Nat, (len : Int) - 1 - 1 = (m : Int) ∧ ((m : Int) % 2 == 0) = true ∧ 2 ≤ len) ∨ (k ≠ 1 ∧ k ≠ 20 ∧ n = 0))) := by
  by_cases h1 : k = 1
  · subst h1
    rw [numOk_1]
    by_cases ha : n < 0
    · exact .inl ⟨decide_eq_false (by omega), .inl ⟨rfl, ha⟩⟩
    · by_cases hb : 999999999999 < n
      · exact .inl ⟨decide_eq_false (by omega), .inr (.inl ⟨rfl, by omega, hb⟩)⟩
      · exact .inr ⟨decide_eq_true (by omega), .inl ⟨rfl, by omega, by omega⟩⟩
  · by_cases h20 : k = 20
    · subst h20
      have hl1 : 1 ≤ len := by rcases hl with h | h; exact h; exact absurd rfl h
      rw [numOk_20]
      by_cases ha : n < 0
      · exact .inl ⟨decide_eq_false (by omega), .inr (.inr (.inl ⟨rfl, ha⟩))⟩
      · by_cases hb : 1 < n
        · exact .inl ⟨decide_eq_false (by omega), .inr (.inr (.inr (.inl ⟨rfl, hb⟩)))⟩
        · by_cases n0 : n = 0
          · subst n0
            by_cases hp : ((len - 1 : Nat) : Int) % 2 = 0
            · exact .inr ⟨decide_eq_true (by omega), .inr (.inl ⟨rfl, rfl, len - 1, by omega, by simpa using hp⟩)⟩
            · exact .inl ⟨decide_eq_false (by omega), .inr (.inr (.inr (.inr (.inl ⟨rfl, rfl, len - 1, by omega, by simpa using hp⟩))))⟩
          · obtain rfl : n = 1 := by omega
            by_cases hz : len = 1
            · exact .inl ⟨decide_eq_false (by omega), .inr (.inr (.inr (.inr (.inr (.inl ⟨rfl, rfl, by omega⟩)))))⟩
            · by_cases hp : ((len - 2 : Nat) : Int) % 2 = 0
              · exact .inr ⟨decide_eq_true (by omega), .inr (.inr (.inl ⟨rfl, rfl, len - 2, by omega, by simpa using hp, by omega⟩))⟩
              · exact .inl ⟨decide_eq_false (by omega), .inr (.inr (.inr (.inr (.inr (.inr (.inl ⟨rfl, rfl, len - 2, by omega, by simpa using hp, by omega⟩))))))⟩
    · rw [numOk_0 h1 h20]
      by_cases n0 : n = 0
      · exact .inr ⟨decide_eq_true n0, .inr (.inr (.inr ⟨h1, h20, n0⟩))⟩
      · exact .inl ⟨decide_eq_false n0, .inr (.inr (.inr (.inr (.inr (.inr (.inr ⟨h1, h20, by simpa using n0⟩))))))⟩
section
variable (k : Int) (t : ByteArray) (n l : Int) (r : List X) (A : Option Addr) (cap d lo hi : Nat) (w : World)
/-- The counts of kids, as the walk meets them. -/
def KdC (k : Int) (t : ByteArray) (n l : Int) (s : Value) (lo hi : Nat) : Prop := ∀ W : World, Calls Tryd.prog 43 #[.agg #[.int .i64 k, .string t, .int .i64 n, .int .i64 l, s]] W fun e w' => e = .returned (.tuple #[.int .i64 (lo : Int), .int .i64 (hi : Int)]) ∧ Below W.heap.size W w'
def WdC (k : Int) (t : ByteArray) (n l : Int) (s : Value) (q : Bool) : Prop := ∀ W : World, Calls Tryd.prog 44 #[.agg #[.int .i64 k, .string t, .int .i64 n, .int .i64 l, s]] W fun e w' => e = .returned (.bool q) ∧ Below W.heap.size W w'
set_option maxHeartbeats 1000000 in
theorem valid_bad (v : Bool) (hv : v = false) (hKd : KdC k t n l (.slice A r.length cap) lo hi)
    (hbad : 40 < d ∨ (d ≤ 40 ∧ k < 1) ∨ (d ≤ 40 ∧ 1 ≤ k ∧ 29 < k) ∨ (d ≤ 40 ∧ 1 ≤ k ∧ k ≤ 29 ∧ l < 0) ∨ (d ≤ 40 ∧ 1 ≤ k ∧ k ≤ 29 ∧ 0 ≤ l ∧ r.length < lo) ∨ (d ≤ 40 ∧ 1 ≤ k ∧ k ≤ 29 ∧ 0 ≤ l ∧ lo ≤ r.length ∧ hi < r.length)) :
    Calls Tryd.prog 30 #[.agg #[.int .i64 k, .string t, .int .i64 n, .int .i64 l, .slice A r.length cap], .int .i64 (d : Int)] w fun e w' => e = .returned (.bool v) ∧ Below w.heap.size w w' := by
  subst hv
  unfold KdC at hKd
  rcases hbad with c0 | ⟨c0, c1⟩ | ⟨c0, c1, c2⟩ | ⟨c0, c1, c2, c3⟩ | ⟨c0, c1, c2, c3, c4⟩ | ⟨c0, c1, c2, c3, c4, c5⟩
  all_goals
    go_enter Tryd.func30, Tryd.ntmps30
    go_wp2_with (go_at_call 43; refine (hKd _).mono ?_; rintro e w1 ⟨rfl, hb1⟩; have hbx := Var.kept (Var.new w k t n l (.slice A r.length cap) 45) hb1; obtain ⟨a0, a1, a2, a3, a4⟩ := id hbx)
    go_ret
    exact ⟨rfl, Below.trans (by repeat (first | exact Below.refl _ _ | refine Below.drew ?_ | refine Below.setCell ?_ (by (try simp); try omega) _ | refine Below.alloc ?_ (by (try simp); try omega) _)) (hb1.mono (by simp))⟩
set_option maxHeartbeats 1000000 in
theorem valid_word (v : Bool) (hv : v = false) (hKd : KdC k t n l (.slice A r.length cap) lo hi) (hWd : WdC k t n l (.slice A r.length cap) false)
    (o0 : d ≤ 40) (o1 : 1 ≤ k) (o2 : k ≤ 29) (o3 : lo ≤ r.length) (o4 : r.length ≤ hi) (o5 : 0 ≤ l) :
    Calls Tryd.prog 30 #[.agg #[.int .i64 k, .string t, .int .i64 n, .int .i64 l, .slice A r.length cap], .int .i64 (d : Int)] w fun e w' => e = .returned (.bool v) ∧ Below w.heap.size w w' := by
  subst hv
  unfold KdC at hKd
  unfold WdC at hWd
  go_enter Tryd.func30, Tryd.ntmps30
  go_wp2_with (first
    | (go_at_call 43; refine (hKd _).mono ?_; rintro e w1 ⟨rfl, hb1⟩; have hbx := Var.kept (Var.new w k t n l (.slice A r.length cap) 45) hb1; obtain ⟨a0, a1, a2, a3, a4⟩ := id hbx)
    | (go_at_call 44; refine (hWd _).mono ?_; rintro e w2 ⟨rfl, hb2⟩))
  go_ret
  exact ⟨rfl, (Below.trans (by repeat (first | exact Below.refl _ _ | refine Below.drew ?_ | refine Below.setCell ?_ (by (try simp); try omega) _ | refine Below.alloc ?_ (by (try simp); try omega) _)) (hb1.mono (by simp))).trans (hb2.mono (by have := hb1.size; simp at this; omega))⟩
set_option maxHeartbeats 2000000 in
theorem valid_num (v : Bool) (hv : v = false) (hKd : KdC k t n l (.slice A r.length cap) lo hi) (hWd : WdC k t n l (.slice A r.length cap) true)
    (o0 : d ≤ 40) (o1 : 1 ≤ k) (o2 : k ≤ 29) (o3 : lo ≤ r.length) (o4 : r.length ≤ hi) (o5 : 0 ≤ l)
    (hways : (k = 1 ∧ n < 0) ∨ (k = 1 ∧ 0 ≤ n ∧ 999999999999 < n) ∨ (k = 20 ∧ n < 0) ∨ (k = 20 ∧ 1 < n) ∨ (k ≠ 1 ∧ k ≠ 20 ∧ (n == 0) = false)) :
    Calls Tryd.prog 30 #[.agg #[.int .i64 k, .string t, .int .i64 n, .int .i64 l, .slice A r.length cap], .int .i64 (d : Int)] w fun e w' => e = .returned (.bool v) ∧ Below w.heap.size w w' := by
  subst hv
  unfold KdC at hKd
  unfold WdC at hWd
  rcases hways with ⟨rfl, h1⟩ | ⟨rfl, h1, h2⟩ | ⟨rfl, h1⟩ | ⟨rfl, h1⟩ | ⟨h1, h2, h3⟩
  all_goals
    (try have b1 : (k == 1) = false := (by rw [beq_eq_false_iff_ne]; exact h1))
    (try have b2 : (k == 20) = false := (by rw [beq_eq_false_iff_ne]; exact h2))
    (try have b5 : (n != 0) = true := (by rw [bne, h3]; rfl))
    go_enter Tryd.func30, Tryd.ntmps30
    go_wp2_with (first
      | (go_at_call 43; refine (hKd _).mono ?_; rintro e w1 ⟨rfl, hb1⟩; have hbx := Var.kept (Var.new w _ t n l (.slice A r.length cap) 45) hb1; obtain ⟨a0, a1, a2, a3, a4⟩ := id hbx)
      | (go_at_call 44; refine (hWd _).mono ?_; rintro e w2 ⟨rfl, hb2⟩; have hbx := hbx.kept hb2; obtain ⟨a0, a1, a2, a3, a4⟩ := id hbx))
    go_ret
    exact ⟨rfl, (Below.trans (by repeat (first | exact Below.refl _ _ | refine Below.drew ?_ | refine Below.setCell ?_ (by (try simp); try omega) _ | refine Below.alloc ?_ (by (try simp); try omega) _)) (hb1.mono (by simp))).trans (hb2.mono (by have := hb1.size; simp at this; omega))⟩
end
end X
end Go.Proofs.YtljblaglfooclaaDoor
