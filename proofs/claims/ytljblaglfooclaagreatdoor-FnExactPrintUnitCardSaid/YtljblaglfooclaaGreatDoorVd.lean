/- Proved here: what the reference's test of a tree gives. Condition: the tree has at most 2^20 letters and kids. Proved here: what the reference's test of a case's number gives where it does not fit. Condition: the counts fit. Proved here: what the reference's test of a tree gives where the node itself is as it must be: it asks the kids. Condition: the counts fit. -/
import Derived.Test.YtljblaglfooclaaGreatDoorVn
namespace Go.Proofs.YtljblaglfooclaaGreatDoor
open Go.RowKit
namespace X

theorem okD_bad {W : Int → ByteArray → Bool} {k : Int} {t : ByteArray} {n l : Int} {r : List X} {d : Nat} (h : ¬ (d ≤ 40 ∧ 1 ≤ k ∧ k ≤ 29 ∧ (kidsR k).1 ≤ r.length ∧ r.length ≤ (kidsR k).2 ∧ 0 ≤ l)) : vldD W (.mk k t n l r) d = false := by
  rw [vldD, okNode]
  by_cases hd : d ≤ 40
  · rw [decide_eq_false (fun h2 => h ⟨hd, h2⟩)]; simp
  · rw [decide_eq_false hd]; rfl
theorem okD_word {W : Int → ByteArray → Bool} {k : Int} {t : ByteArray} {n l : Int} {r : List X} {d : Nat} (h : (W k t && numOk k n r.length) = false) : vldD W (.mk k t n l r) d = false := by
  rw [vldD, okNode, h]; simp
theorem okD_good {W : Int → ByteArray → Bool} {k : Int} {t : ByteArray} {n l : Int} {r : List X} {d : Nat} (h : d ≤ 40 ∧ 1 ≤ k ∧ k ≤ 29 ∧ (kidsR k).1 ≤ r.length ∧ r.length ≤ (kidsR k).2 ∧ 0 ≤ l) (h2 : W k t = true) (h3 : numOk k n r.length = true) : vldD W (.mk k t n l r) d = vldDL W r (d + 1) := by
  rw [vldD, okNode, decide_eq_true h.2, h2, h3, decide_eq_true h.1]; rfl
/-- The ways in which a number fits, and does not. -/
theorem num_ways (k n : Int) (len : Nat) (hl : 1 ≤ len ∨ k ≠ 20) :
    (numOk k n len = false ∧ ((k = 1 ∧ n < 0) ∨ (k = 1 ∧ 0 ≤ n ∧ 999999999999 < n) ∨ (k = 20 ∧ n < 0) ∨ (k = 20 ∧ 1 < n) ∨ (k = 20 ∧ n = 0 ∧ ∃ m : Nat, (len : Int) - 1 = (m : Int) ∧ ((m : Int) % 2 == 0) = false) ∨ (k = 20 ∧ n = 1 ∧ len ≤ 1) ∨ (k = 20 ∧ n = 1 ∧ ∃ m : Nat, (len : Int) - 1 - 1 = (m : Int) ∧ ((m : Int) % 2 == 0) = false ∧ 2 ≤ len) ∨ (k ≠ 1 ∧ k ≠ 20 ∧ (n == 0) = false))) ∨
    (numOk k n len = true ∧ ((k = 1 ∧ 0 ≤ n ∧ n ≤ 999999999999) ∨ (k = 20 ∧ n = 0 ∧ ∃ m : Nat, (len : Int) - 1 = (m : Int) ∧ ((m : Int) % 2 == 0) = true) ∨ (k = 20 ∧ n = 1 ∧ ∃ m : Nat, (len : Int) - 1 - 1 = (m : Int) ∧ ((m : Int) % 2 == 0) = true ∧ 2 ≤ len) ∨ (k ≠ 1 ∧ k ≠ 20 ∧ n = 0))) := by
  by_cases h1 : k = 1
  · subst h1
    rw [numOk_1]
    by_cases ha : n < 0
    · exact .inl ⟨decide_eq_false (by omega), .inl ⟨rfl, ha⟩⟩
    · by_cases hb : 999999999999 < n
      · exact .inl ⟨decide_eq_false (by omega), .inr (.inl ⟨rfl, by omega, hb⟩)⟩
      · exact .inr ⟨decide_eq_true (by omega), .inl ⟨rfl, by omega, by omega⟩⟩
  · by_cases h20 : k = 20
    · subst h20
      have hl1 : 1 ≤ len := by rcases hl with h | h; exact h; exact absurd rfl h
      rw [numOk_20]
      by_cases ha : n < 0
      · exact .inl ⟨decide_eq_false (by omega), .inr (.inr (.inl ⟨rfl, ha⟩))⟩
      · by_cases hb : 1 < n
        · exact .inl ⟨decide_eq_false (by omega), .inr (.inr (.inr (.inl ⟨rfl, hb⟩)))⟩
        · by_cases n0 : n = 0
          · subst n0
            by_cases hp : ((len - 1 : Nat) : Int) % 2 = 0
            · exact .inr ⟨decide_eq_true (by omega), .inr (.inl ⟨rfl, rfl, len - 1, by omega, by simpa using hp⟩)⟩
            · exact .inl ⟨decide_eq_false (by omega), .inr (.inr (.inr (.inr (.inl ⟨rfl, rfl, len - 1, by omega, by simpa using hp⟩))))⟩
          · obtain rfl : n = 1 := by omega
            by_cases hz : len = 1
            · exact .inl ⟨decide_eq_false (by omega), .inr (.inr (.inr (.inr (.inr (.inl ⟨rfl, rfl, by omega⟩)))))⟩
            · by_cases hp : ((len - 2 : Nat) : Int) % 2 = 0
              · exact .inr ⟨decide_eq_true (by omega), .inr (.inr (.inl ⟨rfl, rfl, len - 2, by omega, by simpa using hp, by omega⟩))⟩
              · exact .inl ⟨decide_eq_false (by omega), .inr (.inr (.inr (.inr (.inr (.inr (.inl ⟨rfl, rfl, len - 2, by omega, by simpa using hp, by omega⟩))))))⟩
    · rw [numOk_0 h1 h20]
      by_cases n0 : n = 0
      · exact .inr ⟨decide_eq_true n0, .inr (.inr (.inr ⟨h1, h20, n0⟩))⟩
      · exact .inl ⟨decide_eq_false n0, .inr (.inr (.inr (.inr (.inr (.inr (.inr ⟨h1, h20, by simpa using n0⟩))))))⟩
section
variable (k : Int) (t : ByteArray) (n l : Int) (r : List X) (A : Option Addr) (cap d lo hi : Nat) (w : World)
/-- The counts of kids, as the walk meets them. -/
def KdC (k : Int) (t : ByteArray) (n l : Int) (s : Value) (lo hi : Nat) : Prop := ∀ W : World, Calls Tryz.prog 75 #[.agg #[.int .i64 k, .string t, .int .i64 n, .int .i64 l, s]] W fun e w' => e = .returned (.tuple #[.int .i64 (lo : Int), .int .i64 (hi : Int)]) ∧ Below W.heap.size W w'
def WdC (k : Int) (t : ByteArray) (n l : Int) (s : Value) (q : Bool) : Prop := ∀ W : World, Calls Tryz.prog 76 #[.agg #[.int .i64 k, .string t, .int .i64 n, .int .i64 l, s]] W fun e w' => e = .returned (.bool q) ∧ Below W.heap.size W w'
set_option maxHeartbeats 1000000 in
theorem valid_bad (v : Bool) (hv : v = false) (hKd : KdC k t n l (.slice A r.length cap) lo hi)
    (hbad : 40 < d ∨ (d ≤ 40 ∧ k < 1) ∨ (d ≤ 40 ∧ 1 ≤ k ∧ 29 < k) ∨ (d ≤ 40 ∧ 1 ≤ k ∧ k ≤ 29 ∧ l < 0) ∨ (d ≤ 40 ∧ 1 ≤ k ∧ k ≤ 29 ∧ 0 ≤ l ∧ r.length < lo) ∨ (d ≤ 40 ∧ 1 ≤ k ∧ k ≤ 29 ∧ 0 ≤ l ∧ lo ≤ r.length ∧ hi < r.length)) :
    Calls Tryz.prog 46 #[.agg #[.int .i64 k, .string t, .int .i64 n, .int .i64 l, .slice A r.length cap], .int .i64 (d : Int)] w fun e w' => e = .returned (.bool v) ∧ Below w.heap.size w w' := by
  subst hv
  unfold KdC at hKd
  rcases hbad with c0 | ⟨c0, c1⟩ | ⟨c0, c1, c2⟩ | ⟨c0, c1, c2, c3⟩ | ⟨c0, c1, c2, c3, c4⟩ | ⟨c0, c1, c2, c3, c4, c5⟩
  all_goals
    go_enter Tryz.func46, Tryz.ntmps46
    go_wp2_with (go_at_call 75; refine (hKd _).mono ?_; rintro e w1 ⟨rfl, hb1⟩; have hbx := Var.kept (Var.new w k t n l (.slice A r.length cap) 46) hb1; obtain ⟨a0, a1, a2, a3, a4⟩ := id hbx)
    go_ret
    exact ⟨rfl, Below.trans (by repeat (first | exact Below.refl _ _ | refine Below.drew ?_ | refine Below.setCell ?_ (by (try simp); try omega) _ | refine Below.alloc ?_ (by (try simp); try omega) _)) (hb1.mono (by simp))⟩
set_option maxHeartbeats 1000000 in
theorem valid_word (v : Bool) (hv : v = false) (hKd : KdC k t n l (.slice A r.length cap) lo hi) (hWd : WdC k t n l (.slice A r.length cap) false)
    (o0 : d ≤ 40) (o1 : 1 ≤ k) (o2 : k ≤ 29) (o3 : lo ≤ r.length) (o4 : r.length ≤ hi) (o5 : 0 ≤ l) :
    Calls Tryz.prog 46 #[.agg #[.int .i64 k, .string t, .int .i64 n, .int .i64 l, .slice A r.length cap], .int .i64 (d : Int)] w fun e w' => e = .returned (.bool v) ∧ Below w.heap.size w w' := by
  subst hv
  unfold KdC at hKd
  unfold WdC at hWd
  go_enter Tryz.func46, Tryz.ntmps46
  go_wp2_with (first
    | (go_at_call 75; refine (hKd _).mono ?_; rintro e w1 ⟨rfl, hb1⟩; have hbx := Var.kept (Var.new w k t n l (.slice A r.length cap) 46) hb1; obtain ⟨a0, a1, a2, a3, a4⟩ := id hbx)
    | (go_at_call 76; refine (hWd _).mono ?_; rintro e w2 ⟨rfl, hb2⟩))
  go_ret
  exact ⟨rfl, (Below.trans (by repeat (first | exact Below.refl _ _ | refine Below.drew ?_ | refine Below.setCell ?_ (by (try simp); try omega) _ | refine Below.alloc ?_ (by (try simp); try omega) _)) (hb1.mono (by simp))).trans (hb2.mono (by have := hb1.size; simp at this; omega))⟩
set_option maxHeartbeats 2000000 in
theorem valid_num (v : Bool) (hv : v = false) (hKd : KdC k t n l (.slice A r.length cap) lo hi) (hWd : WdC k t n l (.slice A r.length cap) true)
    (o0 : d ≤ 40) (o1 : 1 ≤ k) (o2 : k ≤ 29) (o3 : lo ≤ r.length) (o4 : r.length ≤ hi) (o5 : 0 ≤ l)
    (hways : (k = 1 ∧ n < 0) ∨ (k = 1 ∧ 0 ≤ n ∧ 999999999999 < n) ∨ (k = 20 ∧ n < 0) ∨ (k = 20 ∧ 1 < n) ∨ (k ≠ 1 ∧ k ≠ 20 ∧ (n == 0) = false)) :
    Calls Tryz.prog 46 #[.agg #[.int .i64 k, .string t, .int .i64 n, .int .i64 l, .slice A r.length cap], .int .i64 (d : Int)] w fun e w' => e = .returned (.bool v) ∧ Below w.heap.size w w' := by
  subst hv
  unfold KdC at hKd
  unfold WdC at hWd
  rcases hways with ⟨rfl, h1⟩ | ⟨rfl, h1, h2⟩ | ⟨rfl, h1⟩ | ⟨rfl, h1⟩ | ⟨h1, h2, h3⟩
  all_goals
    (try have b1 : (k == 1) = false := (by rw [beq_eq_false_iff_ne]; exact h1))
    (try have b2 : (k == 20) = false := (by rw [beq_eq_false_iff_ne]; exact h2))
    (try have b5 : (n != 0) = true := (by rw [bne, h3]; rfl))
    go_enter Tryz.func46, Tryz.ntmps46
    go_wp2_with (first
      | (go_at_call 75; refine (hKd _).mono ?_; rintro e w1 ⟨rfl, hb1⟩; have hbx := Var.kept (Var.new w _ t n l (.slice A r.length cap) 46) hb1; obtain ⟨a0, a1, a2, a3, a4⟩ := id hbx)
      | (go_at_call 76; refine (hWd _).mono ?_; rintro e w2 ⟨rfl, hb2⟩; have hbx := hbx.kept hb2; obtain ⟨a0, a1, a2, a3, a4⟩ := id hbx))
    go_ret
    exact ⟨rfl, (Below.trans (by repeat (first | exact Below.refl _ _ | refine Below.drew ?_ | refine Below.setCell ?_ (by (try simp); try omega) _ | refine Below.alloc ?_ (by (try simp); try omega) _)) (hb1.mono (by simp))).trans (hb2.mono (by have := hb1.size; simp at this; omega))⟩
end
end X
end Go.Proofs.YtljblaglfooclaaGreatDoor

namespace Go.Proofs.YtljblaglfooclaaGreatDoor
open Go.RowKit
namespace X

section
variable (t : ByteArray) (l : Int) (r : List X) (A : Option Addr) (cap d lo hi : Nat) (w : World)
set_option maxHeartbeats 1000000 in
theorem valid_0 (v : Bool) (hv : v = false) (m : Nat) (hm : (r.length : Int) - 1 = (m : Int)) (h1 : ((m : Int) % 2 == 0) = false) (hKd : KdC 20 t 0 l (.slice A r.length cap) lo hi) (hWd : WdC 20 t 0 l (.slice A r.length cap) true)
    (o0 : d ≤ 40) (o3 : lo ≤ r.length) (o4 : r.length ≤ hi) (o5 : 0 ≤ l) (hl : hi ≤ 24) :
    Calls Tryz.prog 46 #[.agg #[.int .i64 20, .string t, .int .i64 0, .int .i64 l, .slice A r.length cap], .int .i64 (d : Int)] w fun e w' => e = .returned (.bool v) ∧ Below w.heap.size w w' := by
  subst hv
  unfold KdC at hKd
  unfold WdC at hWd
  have b4 : ((m : Int) % 2 != 0) = true := by rw [bne, h1]; rfl
  have hm24 : m ≤ 24 := by omega
  generalize r.length = len at *
  go_enter Tryz.func46, Tryz.ntmps46
  go_wp2_with (first
    | (go_at_call 75; refine (hKd _).mono ?_; rintro e w1 ⟨rfl, hb1⟩; have hbx := Var.kept (Var.new w 20 t 0 l (.slice A len cap) 46) hb1; obtain ⟨a0, a1, a2, a3, a4⟩ := id hbx)
    | (go_at_call 76; refine (hWd _).mono ?_; rintro e w2 ⟨rfl, hb2⟩; have hbx := hbx.kept hb2; obtain ⟨a0, a1, a2, a3, a4⟩ := id hbx))
  go_ret
  exact ⟨rfl, (Below.trans (by repeat (first | exact Below.refl _ _ | refine Below.drew ?_ | refine Below.setCell ?_ (by (try simp); try omega) _ | refine Below.alloc ?_ (by (try simp); try omega) _)) (hb1.mono (by simp))).trans (hb2.mono (by have := hb1.size; simp at this; omega))⟩
set_option maxHeartbeats 1000000 in
theorem valid_1 (v : Bool) (hv : v = false) (m : Nat) (hm : (r.length : Int) - 1 - 1 = (m : Int)) (h1 : ((m : Int) % 2 == 0) = false) (hKd : KdC 20 t 1 l (.slice A r.length cap) lo hi) (hWd : WdC 20 t 1 l (.slice A r.length cap) true)
    (o0 : d ≤ 40) (o3 : lo ≤ r.length) (o4 : r.length ≤ hi) (o5 : 0 ≤ l) (hl : hi ≤ 24) :
    Calls Tryz.prog 46 #[.agg #[.int .i64 20, .string t, .int .i64 1, .int .i64 l, .slice A r.length cap], .int .i64 (d : Int)] w fun e w' => e = .returned (.bool v) ∧ Below w.heap.size w w' := by
  subst hv
  unfold KdC at hKd
  unfold WdC at hWd
  have b4 : ((m : Int) % 2 != 0) = true := by rw [bne, h1]; rfl
  have hm24 : m ≤ 24 := by omega
  generalize r.length = len at *
  go_enter Tryz.func46, Tryz.ntmps46
  go_wp2_with (first
    | (go_at_call 75; refine (hKd _).mono ?_; rintro e w1 ⟨rfl, hb1⟩; have hbx := Var.kept (Var.new w 20 t 1 l (.slice A len cap) 46) hb1; obtain ⟨a0, a1, a2, a3, a4⟩ := id hbx)
    | (go_at_call 76; refine (hWd _).mono ?_; rintro e w2 ⟨rfl, hb2⟩; have hbx := hbx.kept hb2; obtain ⟨a0, a1, a2, a3, a4⟩ := id hbx))
  go_ret
  exact ⟨rfl, (Below.trans (by repeat (first | exact Below.refl _ _ | refine Below.drew ?_ | refine Below.setCell ?_ (by (try simp); try omega) _ | refine Below.alloc ?_ (by (try simp); try omega) _)) (hb1.mono (by simp))).trans (hb2.mono (by have := hb1.size; simp at this; omega))⟩
set_option maxHeartbeats 1000000 in
theorem valid_2 (v : Bool) (hv : v = false) (len : Nat) (hr1 : len = 1) (hKd : KdC 20 t 1 l (.slice A len cap) lo hi) (hWd : WdC 20 t 1 l (.slice A len cap) true)
    (o0 : d ≤ 40) (o3 : lo ≤ len) (o4 : len ≤ hi) (o5 : 0 ≤ l) :
    Calls Tryz.prog 46 #[.agg #[.int .i64 20, .string t, .int .i64 1, .int .i64 l, .slice A len cap], .int .i64 (d : Int)] w fun e w' => e = .returned (.bool v) ∧ Below w.heap.size w w' := by
  subst hv hr1
  unfold KdC at hKd
  unfold WdC at hWd
  go_enter Tryz.func46, Tryz.ntmps46
  go_wp2_with (first
    | (go_at_call 75; refine (hKd _).mono ?_; rintro e w1 ⟨rfl, hb1⟩; have hbx := Var.kept (Var.new w 20 t 1 l (.slice A 1 cap) 46) hb1; obtain ⟨a0, a1, a2, a3, a4⟩ := id hbx)
    | (go_at_call 76; refine (hWd _).mono ?_; rintro e w2 ⟨rfl, hb2⟩; have hbx := hbx.kept hb2; obtain ⟨a0, a1, a2, a3, a4⟩ := id hbx))
  go_ret
  exact ⟨rfl, (Below.trans (by repeat (first | exact Below.refl _ _ | refine Below.drew ?_ | refine Below.setCell ?_ (by (try simp); try omega) _ | refine Below.alloc ?_ (by (try simp); try omega) _)) (hb1.mono (by simp))).trans (hb2.mono (by have := hb1.size; simp at this; omega))⟩
end
end X
end Go.Proofs.YtljblaglfooclaaGreatDoor

namespace Go.Proofs.YtljblaglfooclaaGreatDoor
open Go.RowKit
namespace X

/-- What the test gives for each kid. -/
def KidC (P : Nat → Prop) (r : List X) (d : Nat) (w : World) : Prop := ∀ (j : Nat) (hlt : j < r.length) (W W1 : World) (s' : Value), Below w.heap.size w W1 → Below W1.heap.size W1 W → Kd W1 P r[j].r s' →
  Calls Tryz.prog 46 #[val r[j] s', .int .i64 ((d : Int) + 1)] W fun e w' => e = .returned (.bool (vldD wdB r[j] (d + 1))) ∧ Below W.heap.size W w'
set_option maxRecDepth 20000 in
set_option maxHeartbeats 4000000 in
theorem valid_ok (k : Int) (t : ByteArray) (n l : Int) (r : List X) (A : Option Addr) (cap d lo hi : Nat) (w : World) (P : Nat → Prop) (hK : Kd w P r (.slice A r.length cap)) (hP : ∀ b, P b → b < w.heap.size)
    (hKd : KdC k t n l (.slice A r.length cap) lo hi) (hWd : WdC k t n l (.slice A r.length cap) true) (hC : KidC P r d w)
    (o0 : d ≤ 40) (o1 : 1 ≤ k) (o2 : k ≤ 29) (o3 : lo ≤ r.length) (o4 : r.length ≤ hi) (o5 : 0 ≤ l) (hl : hi ≤ 24)
    (hways : (k = 1 ∧ 0 ≤ n ∧ n ≤ 999999999999) ∨ (k = 20 ∧ n = 0 ∧ ∃ m : Nat, (r.length : Int) - 1 = (m : Int) ∧ ((m : Int) % 2 == 0) = true) ∨ (k = 20 ∧ n = 1 ∧ ∃ m : Nat, (r.length : Int) - 1 - 1 = (m : Int) ∧ ((m : Int) % 2 == 0) = true ∧ 2 ≤ r.length) ∨ (k ≠ 1 ∧ k ≠ 20 ∧ n = 0)) :
    Calls Tryz.prog 46 #[.agg #[.int .i64 k, .string t, .int .i64 n, .int .i64 l, .slice A r.length cap], .int .i64 (d : Int)] w fun e w' => e = .returned (.bool (vldDL wdB r (d + 1))) ∧ Below w.heap.size w w' := by
  unfold KdC at hKd
  unfold WdC at hWd
  obtain ⟨v0, hv0⟩ : ∃ v, v = vldDL wdB r (d + 1) := ⟨_, rfl⟩
  rw [← hv0]
  have HV := Lib.hid hv0
  clear hv0
  rcases hways with ⟨rfl, h1, h2⟩ | ⟨rfl, rfl, m, hm, h1⟩ | ⟨rfl, rfl, m, hm, h1, h2⟩ | ⟨h1, h2, rfl⟩
  all_goals
    (try have b1 : (k == 1) = false := (by rw [beq_eq_false_iff_ne]; exact h1))
    (try have b2 : (k == 20) = false := (by rw [beq_eq_false_iff_ne]; exact h2))
    (try have b4 : ((m : Int) % 2 != 0) = false := (by rw [bne, h1]; rfl))
    (try have hm24 : m ≤ 24 := (by omega))
    have f1 : decide (r.length < lo) = false := decide_eq_false (by omega)
    have f2 : decide (hi < r.length) = false := decide_eq_false (by omega)
    have f3 : decide (40 < (d : Int)) = false := decide_eq_false (by omega)
    have f4 : decide (l < 0) = false := decide_eq_false (by omega)
    go_enter Tryz.func46, Tryz.ntmps46
    go_wp2_with (first
      | (go_at_call 75; refine (hKd _).mono ?_; rintro e w1 ⟨rfl, hb1⟩; have hbx := Var.kept (Var.new w _ t _ l (.slice A r.length cap) 46) hb1; obtain ⟨a0, a1, a2, a3, a4⟩ := id hbx)
      | (go_at_call 76; refine (hWd _).mono ?_; rintro e w2 ⟨rfl, hb2⟩; have hbx := hbx.kept hb2; obtain ⟨a0, a1, a2, a3, a4⟩ := id hbx))
    have hbb : Below w.heap.size w w2 := (Below.trans (by repeat (first | exact Below.refl _ _ | refine Below.drew ?_ | refine Below.setCell ?_ (by (try simp); try omega) _ | refine Below.alloc ?_ (by (try simp); try omega) _)) (hb1.mono (by simp))).trans (hb2.mono (by have := hb1.size; simp at this; omega))
    clear a0 a1 a2 a3 hb1
    have hA4 := a4
    clear a4
    go_loopw [7] (fun i wr => ∃ j : Nat, i = .int .i64 j ∧ Hid (∀ i (h : i < r.length), i < j → vldD wdB r[i] (d + 1) = true) ∧ j ≤ r.length ∧ wr.cell? ⟨w.heap.size, 4, none⟩ = some (.slice A r.length cap) ∧ Below w.heap.size w wr)
      (fun i _ => r.length - (intOf i).toNat)
    case atStart => exact ⟨0, rfl, Lib.hid (fun i _ h => by omega), by omega, hA4, hbb⟩
    case round =>
      obtain ⟨j, rfl, HM, hj, hcell, hb⟩ := hrel
      have hsz := hb.size
      clear hA4 hbx hKd hWd f1 f2 f3 f4
      (try clear hm)
      by_cases hlt : j < r.length
      · obtain ⟨b, o, s', rfl, hPb, hkid, c0, c1, c2, c3, c4⟩ := Kd.at_ (hK.below hb hP) hlt
        obtain ⟨A1, cap1, rfl⟩ := hkid.form
        have i0 : (j : Int) < (r.length : Int) := by omega
        have hCj := fun (W : World) (hW : Below wr.heap.size wr W) => hC j hlt W wr _ hb hW hkid
        have hcl := World.block_lt_of_cell? _ _ hcell
        obtain ⟨v, hv⟩ : ∃ v, v = vldD wdB r[j] (d + 1) := ⟨_, rfl⟩
        rw [← hv] at hCj
        cases v with
        | true =>
          have HN : Hid (∀ i (h : i < r.length), i < j + 1 → vldD wdB r[i] (d + 1) = true) := Lib.hid fun i h hi => by
            by_cases e : i = j
            · subst e; exact hv.symm
            · exact HM.out i h (by omega)
          clear HM hv
          go_wp2_with (go_at_call 46; refine (hCj _ (by repeat (first | exact Below.refl _ _ | refine Below.drew ?_ | refine Below.setCell ?_ (by (try simp); try omega) _ | refine Below.alloc ?_ (by (try simp); try omega) _))).mono ?_; rintro e w3 ⟨rfl, hb3⟩)
          go_roundw
          case rel =>
            first
            | exact ⟨j + 1, by go_num, HN, by omega, kc1 hb3 hcell, hb.trans (hb3.mono hsz)⟩
            | ((repeat apply Exists.intro); exact ⟨⟨j + 1, by go_num, HN, by omega, kc1 hb3 hcell, hb.trans (hb3.mono hsz)⟩, rfl⟩)
          case measure => simp [intOf]; omega
        | false =>
          have HN := Lib.hid (HV.out.trans (vldDL_no wdB r hlt hv.symm))
          clear HM hv
          go_wp2_with (go_at_call 46; refine (hCj _ (by repeat (first | exact Below.refl _ _ | refine Below.drew ?_ | refine Below.setCell ?_ (by (try simp); try omega) _ | refine Below.alloc ?_ (by (try simp); try omega) _))).mono ?_; rintro e w3 ⟨rfl, hb3⟩)
          go_ret
          exact ⟨ret_b HN.out.symm, hb.trans (hb3.mono hsz)⟩
      · obtain rfl : j = r.length := by omega
        have HN := Lib.hid (HV.out.trans (vldDL_all wdB r fun i h => HM.out i h h))
        clear HM
        go_wp2_with fail
        go_ret
        exact ⟨ret_b HN.out.symm, hb⟩
end X
end Go.Proofs.YtljblaglfooclaaGreatDoor
