/- Proved here: the least and the greatest count of kids by kind, of the program and of the reference; whether a text is the text of a set; what the reference's count leaves. Condition: a text and a tree fit. -/
import Derived.Test.YtljblaglfooclaaGreatDoorVaP
import Derived.Test.YtljblaglfooclaaGreatDoorXm
import Derived.Test.YtljblaglfooclaaGreatDoorSe
import Derived.Test.YtljblaglfooclaaGreatDoorHeld
namespace Go.Proofs.YtljblaglfooclaaGreatDoor
open Go.RowKit
namespace X

theorem kidsR_no {k : Int} (h6 : k ≠ 6) (h7 : k ≠ 7) (h13 : k ≠ 13) (h19 : k ≠ 19) (h26 : k ≠ 26) (h27 : k ≠ 27) (h8 : k ≠ 8) (h11 : k ≠ 11) (h9 : k ≠ 9) (h15 : k ≠ 15) (h10 : k ≠ 10) (h12 : k ≠ 12) (h14 : k ≠ 14) (h16 : k ≠ 16) (h17 : k ≠ 17) (h18 : k ≠ 18) (h20 : k ≠ 20) (h21 : k ≠ 21) (h24 : k ≠ 24) (h22 : k ≠ 22) (h29 : k ≠ 29) : kidsR k = (0, 0) := by
  unfold kidsR
  repeat' split
  all_goals first | rfl | omega
theorem ret_kids {k : Int} {a b : Int} (h : ((kidsR k).1 : Int) = a ∧ ((kidsR k).2 : Int) = b) : Ending.returned (.tuple #[.int .i64 a, .int .i64 b]) = .returned (.tuple #[.int .i64 ((kidsR k).1 : Int), .int .i64 ((kidsR k).2 : Int)]) := by rw [h.1, h.2]
set_option maxHeartbeats 4000000 in
theorem implKids (k : Int) (w : World) : Calls Tryz.prog 83 #[.int .i64 k] w fun e w' => e = .returned (.tuple #[.int .i64 ((kidsR k).1 : Int), .int .i64 ((kidsR k).2 : Int)]) ∧ w = w' := by
  by_cases h6 : k = 6
  · subst h6
    have E := Lib.hid (show ((kidsR 6).1 : Int) = 0 ∧ ((kidsR 6).2 : Int) = 8 from ⟨rfl, rfl⟩)
    go_enter Tryz.func83, Tryz.ntmps83
    go_wp2
    go_ret2
    exact ⟨ret_kids E.out, rfl⟩
  have b6 : (k == 6) = false := by rw [beq_eq_false_iff_ne]; exact h6
  by_cases h7 : k = 7
  · subst h7
    have E := Lib.hid (show ((kidsR 7).1 : Int) = 1 ∧ ((kidsR 7).2 : Int) = 1 from ⟨rfl, rfl⟩)
    clear h6
    go_enter Tryz.func83, Tryz.ntmps83
    go_wp2
    go_ret2
    exact ⟨ret_kids E.out, rfl⟩
  have b7 : (k == 7) = false := by rw [beq_eq_false_iff_ne]; exact h7
  by_cases h13 : k = 13
  · subst h13
    have E := Lib.hid (show ((kidsR 13).1 : Int) = 1 ∧ ((kidsR 13).2 : Int) = 1 from ⟨rfl, rfl⟩)
    clear h6 h7
    go_enter Tryz.func83, Tryz.ntmps83
    go_wp2
    go_ret2
    exact ⟨ret_kids E.out, rfl⟩
  have b13 : (k == 13) = false := by rw [beq_eq_false_iff_ne]; exact h13
  by_cases h19 : k = 19
  · subst h19
    have E := Lib.hid (show ((kidsR 19).1 : Int) = 1 ∧ ((kidsR 19).2 : Int) = 1 from ⟨rfl, rfl⟩)
    clear h6 h7 h13
    go_enter Tryz.func83, Tryz.ntmps83
    go_wp2
    go_ret2
    exact ⟨ret_kids E.out, rfl⟩
  have b19 : (k == 19) = false := by rw [beq_eq_false_iff_ne]; exact h19
  by_cases h26 : k = 26
  · subst h26
    have E := Lib.hid (show ((kidsR 26).1 : Int) = 1 ∧ ((kidsR 26).2 : Int) = 1 from ⟨rfl, rfl⟩)
    clear h6 h7 h13 h19
    go_enter Tryz.func83, Tryz.ntmps83
    go_wp2
    go_ret2
    exact ⟨ret_kids E.out, rfl⟩
  have b26 : (k == 26) = false := by rw [beq_eq_false_iff_ne]; exact h26
  by_cases h27 : k = 27
  · subst h27
    have E := Lib.hid (show ((kidsR 27).1 : Int) = 1 ∧ ((kidsR 27).2 : Int) = 1 from ⟨rfl, rfl⟩)
    clear h6 h7 h13 h19 h26
    go_enter Tryz.func83, Tryz.ntmps83
    go_wp2
    go_ret2
    exact ⟨ret_kids E.out, rfl⟩
  have b27 : (k == 27) = false := by rw [beq_eq_false_iff_ne]; exact h27
  by_cases h8 : k = 8
  · subst h8
    have E := Lib.hid (show ((kidsR 8).1 : Int) = 2 ∧ ((kidsR 8).2 : Int) = 2 from ⟨rfl, rfl⟩)
    clear h6 h7 h13 h19 h26 h27
    go_enter Tryz.func83, Tryz.ntmps83
    go_wp2
    go_ret2
    exact ⟨ret_kids E.out, rfl⟩
  have b8 : (k == 8) = false := by rw [beq_eq_false_iff_ne]; exact h8
  by_cases h11 : k = 11
  · subst h11
    have E := Lib.hid (show ((kidsR 11).1 : Int) = 2 ∧ ((kidsR 11).2 : Int) = 2 from ⟨rfl, rfl⟩)
    clear h6 h7 h13 h19 h26 h27 h8
    go_enter Tryz.func83, Tryz.ntmps83
    go_wp2
    go_ret2
    exact ⟨ret_kids E.out, rfl⟩
  have b11 : (k == 11) = false := by rw [beq_eq_false_iff_ne]; exact h11
  by_cases h9 : k = 9
  · subst h9
    have E := Lib.hid (show ((kidsR 9).1 : Int) = 2 ∧ ((kidsR 9).2 : Int) = 3 from ⟨rfl, rfl⟩)
    clear h6 h7 h13 h19 h26 h27 h8 h11
    go_enter Tryz.func83, Tryz.ntmps83
    go_wp2
    go_ret2
    exact ⟨ret_kids E.out, rfl⟩
  have b9 : (k == 9) = false := by rw [beq_eq_false_iff_ne]; exact h9
  by_cases h15 : k = 15
  · subst h15
    have E := Lib.hid (show ((kidsR 15).1 : Int) = 2 ∧ ((kidsR 15).2 : Int) = 3 from ⟨rfl, rfl⟩)
    clear h6 h7 h13 h19 h26 h27 h8 h11 h9
    go_enter Tryz.func83, Tryz.ntmps83
    go_wp2
    go_ret2
    exact ⟨ret_kids E.out, rfl⟩
  have b15 : (k == 15) = false := by rw [beq_eq_false_iff_ne]; exact h15
  by_cases h10 : k = 10
  · subst h10
    have E := Lib.hid (show ((kidsR 10).1 : Int) = 1 ∧ ((kidsR 10).2 : Int) = 9 from ⟨rfl, rfl⟩)
    clear h6 h7 h13 h19 h26 h27 h8 h11 h9 h15
    go_enter Tryz.func83, Tryz.ntmps83
    go_wp2
    go_ret2
    exact ⟨ret_kids E.out, rfl⟩
  have b10 : (k == 10) = false := by rw [beq_eq_false_iff_ne]; exact h10
  by_cases h12 : k = 12
  · subst h12
    have E := Lib.hid (show ((kidsR 12).1 : Int) = 3 ∧ ((kidsR 12).2 : Int) = 3 from ⟨rfl, rfl⟩)
    clear h6 h7 h13 h19 h26 h27 h8 h11 h9 h15 h10
    go_enter Tryz.func83, Tryz.ntmps83
    go_wp2
    go_ret2
    exact ⟨ret_kids E.out, rfl⟩
  have b12 : (k == 12) = false := by rw [beq_eq_false_iff_ne]; exact h12
  by_cases h14 : k = 14
  · subst h14
    have E := Lib.hid (show ((kidsR 14).1 : Int) = 0 ∧ ((kidsR 14).2 : Int) = 24 from ⟨rfl, rfl⟩)
    clear h6 h7 h13 h19 h26 h27 h8 h11 h9 h15 h10 h12
    go_enter Tryz.func83, Tryz.ntmps83
    go_wp2
    go_ret2
    exact ⟨ret_kids E.out, rfl⟩
  have b14 : (k == 14) = false := by rw [beq_eq_false_iff_ne]; exact h14
  by_cases h16 : k = 16
  · subst h16
    have E := Lib.hid (show ((kidsR 16).1 : Int) = 1 ∧ ((kidsR 16).2 : Int) = 2 from ⟨rfl, rfl⟩)
    clear h6 h7 h13 h19 h26 h27 h8 h11 h9 h15 h10 h12 h14
    go_enter Tryz.func83, Tryz.ntmps83
    go_wp2
    go_ret2
    exact ⟨ret_kids E.out, rfl⟩
  have b16 : (k == 16) = false := by rw [beq_eq_false_iff_ne]; exact h16
  by_cases h17 : k = 17
  · subst h17
    have E := Lib.hid (show ((kidsR 17).1 : Int) = 1 ∧ ((kidsR 17).2 : Int) = 2 from ⟨rfl, rfl⟩)
    clear h6 h7 h13 h19 h26 h27 h8 h11 h9 h15 h10 h12 h14 h16
    go_enter Tryz.func83, Tryz.ntmps83
    go_wp2
    go_ret2
    exact ⟨ret_kids E.out, rfl⟩
  have b17 : (k == 17) = false := by rw [beq_eq_false_iff_ne]; exact h17
  by_cases h18 : k = 18
  · subst h18
    have E := Lib.hid (show ((kidsR 18).1 : Int) = 1 ∧ ((kidsR 18).2 : Int) = 2 from ⟨rfl, rfl⟩)
    clear h6 h7 h13 h19 h26 h27 h8 h11 h9 h15 h10 h12 h14 h16 h17
    go_enter Tryz.func83, Tryz.ntmps83
    go_wp2
    go_ret2
    exact ⟨ret_kids E.out, rfl⟩
  have b18 : (k == 18) = false := by rw [beq_eq_false_iff_ne]; exact h18
  by_cases h20 : k = 20
  · subst h20
    have E := Lib.hid (show ((kidsR 20).1 : Int) = 1 ∧ ((kidsR 20).2 : Int) = 14 from ⟨rfl, rfl⟩)
    clear h6 h7 h13 h19 h26 h27 h8 h11 h9 h15 h10 h12 h14 h16 h17 h18
    go_enter Tryz.func83, Tryz.ntmps83
    go_wp2
    go_ret2
    exact ⟨ret_kids E.out, rfl⟩
  have b20 : (k == 20) = false := by rw [beq_eq_false_iff_ne]; exact h20
  by_cases h21 : k = 21
  · subst h21
    have E := Lib.hid (show ((kidsR 21).1 : Int) = 0 ∧ ((kidsR 21).2 : Int) = 1 from ⟨rfl, rfl⟩)
    clear h6 h7 h13 h19 h26 h27 h8 h11 h9 h15 h10 h12 h14 h16 h17 h18 h20
    go_enter Tryz.func83, Tryz.ntmps83
    go_wp2
    go_ret2
    exact ⟨ret_kids E.out, rfl⟩
  have b21 : (k == 21) = false := by rw [beq_eq_false_iff_ne]; exact h21
  by_cases h24 : k = 24
  · subst h24
    have E := Lib.hid (show ((kidsR 24).1 : Int) = 0 ∧ ((kidsR 24).2 : Int) = 1 from ⟨rfl, rfl⟩)
    clear h6 h7 h13 h19 h26 h27 h8 h11 h9 h15 h10 h12 h14 h16 h17 h18 h20 h21
    go_enter Tryz.func83, Tryz.ntmps83
    go_wp2
    go_ret2
    exact ⟨ret_kids E.out, rfl⟩
  have b24 : (k == 24) = false := by rw [beq_eq_false_iff_ne]; exact h24
  by_cases h22 : k = 22
  · subst h22
    have E := Lib.hid (show ((kidsR 22).1 : Int) = 0 ∧ ((kidsR 22).2 : Int) = 2 from ⟨rfl, rfl⟩)
    clear h6 h7 h13 h19 h26 h27 h8 h11 h9 h15 h10 h12 h14 h16 h17 h18 h20 h21 h24
    go_enter Tryz.func83, Tryz.ntmps83
    go_wp2
    go_ret2
    exact ⟨ret_kids E.out, rfl⟩
  have b22 : (k == 22) = false := by rw [beq_eq_false_iff_ne]; exact h22
  by_cases h29 : k = 29
  · subst h29
    have E := Lib.hid (show ((kidsR 29).1 : Int) = 2 ∧ ((kidsR 29).2 : Int) = 8 from ⟨rfl, rfl⟩)
    clear h6 h7 h13 h19 h26 h27 h8 h11 h9 h15 h10 h12 h14 h16 h17 h18 h20 h21 h24 h22
    go_enter Tryz.func83, Tryz.ntmps83
    go_wp2
    go_ret2
    exact ⟨ret_kids E.out, rfl⟩
  have b29 : (k == 29) = false := by rw [beq_eq_false_iff_ne]; exact h29
  have E0 := kidsR_no h6 h7 h13 h19 h26 h27 h8 h11 h9 h15 h10 h12 h14 h16 h17 h18 h20 h21 h24 h22 h29
  have E := Lib.hid (show ((kidsR k).1 : Int) = 0 ∧ ((kidsR k).2 : Int) = 0 by rw [E0]; exact ⟨rfl, rfl⟩)
  clear E0 h6 h7 h13 h19 h26 h27 h8 h11 h9 h15 h10 h12 h14 h16 h17 h18 h20 h21 h24 h22 h29
  go_enter Tryz.func83, Tryz.ntmps83
  go_wp2
  go_ret2
  exact ⟨ret_kids E.out, rfl⟩
set_option maxHeartbeats 4000000 in
theorem specKids (k : Int) (t : ByteArray) (n l : Int) (s : Value) (w : World) : Calls Tryz.prog 75 #[.agg #[.int .i64 k, .string t, .int .i64 n, .int .i64 l, s]] w fun e w' => e = .returned (.tuple #[.int .i64 ((kidsR k).1 : Int), .int .i64 ((kidsR k).2 : Int)]) ∧ Below w.heap.size w w' := by
  by_cases h6 : k = 6
  · subst h6
    have E := Lib.hid (show ((kidsR 6).1 : Int) = 0 ∧ ((kidsR 6).2 : Int) = 8 from ⟨rfl, rfl⟩)
    go_enter Tryz.func75, Tryz.ntmps75
    go_wp2
    go_ret2
    exact ⟨ret_kids E.out, by repeat (first | exact Below.refl _ _ | refine Below.drew ?_ | refine Below.setCell ?_ (by (try simp); try omega) _ | refine Below.alloc ?_ (by (try simp); try omega) _)⟩
  have b6 : (k == 6) = false := by rw [beq_eq_false_iff_ne]; exact h6
  by_cases h7 : k = 7
  · subst h7
    have E := Lib.hid (show ((kidsR 7).1 : Int) = 1 ∧ ((kidsR 7).2 : Int) = 1 from ⟨rfl, rfl⟩)
    clear h6
    go_enter Tryz.func75, Tryz.ntmps75
    go_wp2
    go_ret2
    exact ⟨ret_kids E.out, by repeat (first | exact Below.refl _ _ | refine Below.drew ?_ | refine Below.setCell ?_ (by (try simp); try omega) _ | refine Below.alloc ?_ (by (try simp); try omega) _)⟩
  have b7 : (k == 7) = false := by rw [beq_eq_false_iff_ne]; exact h7
  by_cases h13 : k = 13
  · subst h13
    have E := Lib.hid (show ((kidsR 13).1 : Int) = 1 ∧ ((kidsR 13).2 : Int) = 1 from ⟨rfl, rfl⟩)
    clear h6 h7
    go_enter Tryz.func75, Tryz.ntmps75
    go_wp2
    go_ret2
    exact ⟨ret_kids E.out, by repeat (first | exact Below.refl _ _ | refine Below.drew ?_ | refine Below.setCell ?_ (by (try simp); try omega) _ | refine Below.alloc ?_ (by (try simp); try omega) _)⟩
  have b13 : (k == 13) = false := by rw [beq_eq_false_iff_ne]; exact h13
  by_cases h19 : k = 19
  · subst h19
    have E := Lib.hid (show ((kidsR 19).1 : Int) = 1 ∧ ((kidsR 19).2 : Int) = 1 from ⟨rfl, rfl⟩)
    clear h6 h7 h13
    go_enter Tryz.func75, Tryz.ntmps75
    go_wp2
    go_ret2
    exact ⟨ret_kids E.out, by repeat (first | exact Below.refl _ _ | refine Below.drew ?_ | refine Below.setCell ?_ (by (try simp); try omega) _ | refine Below.alloc ?_ (by (try simp); try omega) _)⟩
  have b19 : (k == 19) = false := by rw [beq_eq_false_iff_ne]; exact h19
  by_cases h26 : k = 26
  · subst h26
    have E := Lib.hid (show ((kidsR 26).1 : Int) = 1 ∧ ((kidsR 26).2 : Int) = 1 from ⟨rfl, rfl⟩)
    clear h6 h7 h13 h19
    go_enter Tryz.func75, Tryz.ntmps75
    go_wp2
    go_ret2
    exact ⟨ret_kids E.out, by repeat (first | exact Below.refl _ _ | refine Below.drew ?_ | refine Below.setCell ?_ (by (try simp); try omega) _ | refine Below.alloc ?_ (by (try simp); try omega) _)⟩
  have b26 : (k == 26) = false := by rw [beq_eq_false_iff_ne]; exact h26
  by_cases h27 : k = 27
  · subst h27
    have E := Lib.hid (show ((kidsR 27).1 : Int) = 1 ∧ ((kidsR 27).2 : Int) = 1 from ⟨rfl, rfl⟩)
    clear h6 h7 h13 h19 h26
    go_enter Tryz.func75, Tryz.ntmps75
    go_wp2
    go_ret2
    exact ⟨ret_kids E.out, by repeat (first | exact Below.refl _ _ | refine Below.drew ?_ | refine Below.setCell ?_ (by (try simp); try omega) _ | refine Below.alloc ?_ (by (try simp); try omega) _)⟩
  have b27 : (k == 27) = false := by rw [beq_eq_false_iff_ne]; exact h27
  by_cases h8 : k = 8
  · subst h8
    have E := Lib.hid (show ((kidsR 8).1 : Int) = 2 ∧ ((kidsR 8).2 : Int) = 2 from ⟨rfl, rfl⟩)
    clear h6 h7 h13 h19 h26 h27
    go_enter Tryz.func75, Tryz.ntmps75
    go_wp2
    go_ret2
    exact ⟨ret_kids E.out, by repeat (first | exact Below.refl _ _ | refine Below.drew ?_ | refine Below.setCell ?_ (by (try simp); try omega) _ | refine Below.alloc ?_ (by (try simp); try omega) _)⟩
  have b8 : (k == 8) = false := by rw [beq_eq_false_iff_ne]; exact h8
  by_cases h11 : k = 11
  · subst h11
    have E := Lib.hid (show ((kidsR 11).1 : Int) = 2 ∧ ((kidsR 11).2 : Int) = 2 from ⟨rfl, rfl⟩)
    clear h6 h7 h13 h19 h26 h27 h8
    go_enter Tryz.func75, Tryz.ntmps75
    go_wp2
    go_ret2
    exact ⟨ret_kids E.out, by repeat (first | exact Below.refl _ _ | refine Below.drew ?_ | refine Below.setCell ?_ (by (try simp); try omega) _ | refine Below.alloc ?_ (by (try simp); try omega) _)⟩
  have b11 : (k == 11) = false := by rw [beq_eq_false_iff_ne]; exact h11
  by_cases h9 : k = 9
  · subst h9
    have E := Lib.hid (show ((kidsR 9).1 : Int) = 2 ∧ ((kidsR 9).2 : Int) = 3 from ⟨rfl, rfl⟩)
    clear h6 h7 h13 h19 h26 h27 h8 h11
    go_enter Tryz.func75, Tryz.ntmps75
    go_wp2
    go_ret2
    exact ⟨ret_kids E.out, by repeat (first | exact Below.refl _ _ | refine Below.drew ?_ | refine Below.setCell ?_ (by (try simp); try omega) _ | refine Below.alloc ?_ (by (try simp); try omega) _)⟩
  have b9 : (k == 9) = false := by rw [beq_eq_false_iff_ne]; exact h9
  by_cases h15 : k = 15
  · subst h15
    have E := Lib.hid (show ((kidsR 15).1 : Int) = 2 ∧ ((kidsR 15).2 : Int) = 3 from ⟨rfl, rfl⟩)
    clear h6 h7 h13 h19 h26 h27 h8 h11 h9
    go_enter Tryz.func75, Tryz.ntmps75
    go_wp2
    go_ret2
    exact ⟨ret_kids E.out, by repeat (first | exact Below.refl _ _ | refine Below.drew ?_ | refine Below.setCell ?_ (by (try simp); try omega) _ | refine Below.alloc ?_ (by (try simp); try omega) _)⟩
  have b15 : (k == 15) = false := by rw [beq_eq_false_iff_ne]; exact h15
  by_cases h10 : k = 10
  · subst h10
    have E := Lib.hid (show ((kidsR 10).1 : Int) = 1 ∧ ((kidsR 10).2 : Int) = 9 from ⟨rfl, rfl⟩)
    clear h6 h7 h13 h19 h26 h27 h8 h11 h9 h15
    go_enter Tryz.func75, Tryz.ntmps75
    go_wp2
    go_ret2
    exact ⟨ret_kids E.out, by repeat (first | exact Below.refl _ _ | refine Below.drew ?_ | refine Below.setCell ?_ (by (try simp); try omega) _ | refine Below.alloc ?_ (by (try simp); try omega) _)⟩
  have b10 : (k == 10) = false := by rw [beq_eq_false_iff_ne]; exact h10
  by_cases h12 : k = 12
  · subst h12
    have E := Lib.hid (show ((kidsR 12).1 : Int) = 3 ∧ ((kidsR 12).2 : Int) = 3 from ⟨rfl, rfl⟩)
    clear h6 h7 h13 h19 h26 h27 h8 h11 h9 h15 h10
    go_enter Tryz.func75, Tryz.ntmps75
    go_wp2
    go_ret2
    exact ⟨ret_kids E.out, by repeat (first | exact Below.refl _ _ | refine Below.drew ?_ | refine Below.setCell ?_ (by (try simp); try omega) _ | refine Below.alloc ?_ (by (try simp); try omega) _)⟩
  have b12 : (k == 12) = false := by rw [beq_eq_false_iff_ne]; exact h12
  by_cases h14 : k = 14
  · subst h14
    have E := Lib.hid (show ((kidsR 14).1 : Int) = 0 ∧ ((kidsR 14).2 : Int) = 24 from ⟨rfl, rfl⟩)
    clear h6 h7 h13 h19 h26 h27 h8 h11 h9 h15 h10 h12
    go_enter Tryz.func75, Tryz.ntmps75
    go_wp2
    go_ret2
    exact ⟨ret_kids E.out, by repeat (first | exact Below.refl _ _ | refine Below.drew ?_ | refine Below.setCell ?_ (by (try simp); try omega) _ | refine Below.alloc ?_ (by (try simp); try omega) _)⟩
  have b14 : (k == 14) = false := by rw [beq_eq_false_iff_ne]; exact h14
  by_cases h16 : k = 16
  · subst h16
    have E := Lib.hid (show ((kidsR 16).1 : Int) = 1 ∧ ((kidsR 16).2 : Int) = 2 from ⟨rfl, rfl⟩)
    clear h6 h7 h13 h19 h26 h27 h8 h11 h9 h15 h10 h12 h14
    go_enter Tryz.func75, Tryz.ntmps75
    go_wp2
    go_ret2
    exact ⟨ret_kids E.out, by repeat (first | exact Below.refl _ _ | refine Below.drew ?_ | refine Below.setCell ?_ (by (try simp); try omega) _ | refine Below.alloc ?_ (by (try simp); try omega) _)⟩
  have b16 : (k == 16) = false := by rw [beq_eq_false_iff_ne]; exact h16
  by_cases h17 : k = 17
  · subst h17
    have E := Lib.hid (show ((kidsR 17).1 : Int) = 1 ∧ ((kidsR 17).2 : Int) = 2 from ⟨rfl, rfl⟩)
    clear h6 h7 h13 h19 h26 h27 h8 h11 h9 h15 h10 h12 h14 h16
    go_enter Tryz.func75, Tryz.ntmps75
    go_wp2
    go_ret2
    exact ⟨ret_kids E.out, by repeat (first | exact Below.refl _ _ | refine Below.drew ?_ | refine Below.setCell ?_ (by (try simp); try omega) _ | refine Below.alloc ?_ (by (try simp); try omega) _)⟩
  have b17 : (k == 17) = false := by rw [beq_eq_false_iff_ne]; exact h17
  by_cases h18 : k = 18
  · subst h18
    have E := Lib.hid (show ((kidsR 18).1 : Int) = 1 ∧ ((kidsR 18).2 : Int) = 2 from ⟨rfl, rfl⟩)
    clear h6 h7 h13 h19 h26 h27 h8 h11 h9 h15 h10 h12 h14 h16 h17
    go_enter Tryz.func75, Tryz.ntmps75
    go_wp2
    go_ret2
    exact ⟨ret_kids E.out, by repeat (first | exact Below.refl _ _ | refine Below.drew ?_ | refine Below.setCell ?_ (by (try simp); try omega) _ | refine Below.alloc ?_ (by (try simp); try omega) _)⟩
  have b18 : (k == 18) = false := by rw [beq_eq_false_iff_ne]; exact h18
  by_cases h20 : k = 20
  · subst h20
    have E := Lib.hid (show ((kidsR 20).1 : Int) = 1 ∧ ((kidsR 20).2 : Int) = 14 from ⟨rfl, rfl⟩)
    clear h6 h7 h13 h19 h26 h27 h8 h11 h9 h15 h10 h12 h14 h16 h17 h18
    go_enter Tryz.func75, Tryz.ntmps75
    go_wp2
    go_ret2
    exact ⟨ret_kids E.out, by repeat (first | exact Below.refl _ _ | refine Below.drew ?_ | refine Below.setCell ?_ (by (try simp); try omega) _ | refine Below.alloc ?_ (by (try simp); try omega) _)⟩
  have b20 : (k == 20) = false := by rw [beq_eq_false_iff_ne]; exact h20
  by_cases h21 : k = 21
  · subst h21
    have E := Lib.hid (show ((kidsR 21).1 : Int) = 0 ∧ ((kidsR 21).2 : Int) = 1 from ⟨rfl, rfl⟩)
    clear h6 h7 h13 h19 h26 h27 h8 h11 h9 h15 h10 h12 h14 h16 h17 h18 h20
    go_enter Tryz.func75, Tryz.ntmps75
    go_wp2
    go_ret2
    exact ⟨ret_kids E.out, by repeat (first | exact Below.refl _ _ | refine Below.drew ?_ | refine Below.setCell ?_ (by (try simp); try omega) _ | refine Below.alloc ?_ (by (try simp); try omega) _)⟩
  have b21 : (k == 21) = false := by rw [beq_eq_false_iff_ne]; exact h21
  by_cases h24 : k = 24
  · subst h24
    have E := Lib.hid (show ((kidsR 24).1 : Int) = 0 ∧ ((kidsR 24).2 : Int) = 1 from ⟨rfl, rfl⟩)
    clear h6 h7 h13 h19 h26 h27 h8 h11 h9 h15 h10 h12 h14 h16 h17 h18 h20 h21
    go_enter Tryz.func75, Tryz.ntmps75
    go_wp2
    go_ret2
    exact ⟨ret_kids E.out, by repeat (first | exact Below.refl _ _ | refine Below.drew ?_ | refine Below.setCell ?_ (by (try simp); try omega) _ | refine Below.alloc ?_ (by (try simp); try omega) _)⟩
  have b24 : (k == 24) = false := by rw [beq_eq_false_iff_ne]; exact h24
  by_cases h22 : k = 22
  · subst h22
    have E := Lib.hid (show ((kidsR 22).1 : Int) = 0 ∧ ((kidsR 22).2 : Int) = 2 from ⟨rfl, rfl⟩)
    clear h6 h7 h13 h19 h26 h27 h8 h11 h9 h15 h10 h12 h14 h16 h17 h18 h20 h21 h24
    go_enter Tryz.func75, Tryz.ntmps75
    go_wp2
    go_ret2
    exact ⟨ret_kids E.out, by repeat (first | exact Below.refl _ _ | refine Below.drew ?_ | refine Below.setCell ?_ (by (try simp); try omega) _ | refine Below.alloc ?_ (by (try simp); try omega) _)⟩
  have b22 : (k == 22) = false := by rw [beq_eq_false_iff_ne]; exact h22
  by_cases h29 : k = 29
  · subst h29
    have E := Lib.hid (show ((kidsR 29).1 : Int) = 2 ∧ ((kidsR 29).2 : Int) = 8 from ⟨rfl, rfl⟩)
    clear h6 h7 h13 h19 h26 h27 h8 h11 h9 h15 h10 h12 h14 h16 h17 h18 h20 h21 h24 h22
    go_enter Tryz.func75, Tryz.ntmps75
    go_wp2
    go_ret2
    exact ⟨ret_kids E.out, by repeat (first | exact Below.refl _ _ | refine Below.drew ?_ | refine Below.setCell ?_ (by (try simp); try omega) _ | refine Below.alloc ?_ (by (try simp); try omega) _)⟩
  have b29 : (k == 29) = false := by rw [beq_eq_false_iff_ne]; exact h29
  have E0 := kidsR_no h6 h7 h13 h19 h26 h27 h8 h11 h9 h15 h10 h12 h14 h16 h17 h18 h20 h21 h24 h22 h29
  have E := Lib.hid (show ((kidsR k).1 : Int) = 0 ∧ ((kidsR k).2 : Int) = 0 by rw [E0]; exact ⟨rfl, rfl⟩)
  clear E0 h6 h7 h13 h19 h26 h27 h8 h11 h9 h15 h10 h12 h14 h16 h17 h18 h20 h21 h24 h22 h29
  go_enter Tryz.func75, Tryz.ntmps75
  go_wp2
  go_ret2
  exact ⟨ret_kids E.out, by repeat (first | exact Below.refl _ _ | refine Below.drew ?_ | refine Below.setCell ?_ (by (try simp); try omega) _ | refine Below.alloc ?_ (by (try simp); try omega) _)⟩
theorem okC_hi {s : ByteArray} {k : Nat} (hk : k < s.size) (h : 127 < s[k].toNat) : decide (okC s) = false := decide_eq_false fun hc => by have := (hc k hk).1; omega
theorem okC_fall {s : ByteArray} {k m : Nat} (hk : k < s.size) (hm : m + 1 = k) (h : s[k].toNat ≤ (s[m]'(by omega)).toNat) : decide (okC s) = false := decide_eq_false fun hc => by
  subst hm
  have := (hc (m + 1) hk).2 (by omega)
  simp only [Nat.add_sub_cancel] at this
  omega
/-- The bytes below k rise. -/
def CsRel (s : ByteArray) (k : Nat) : Prop := ∀ j (hj : j < s.size), j < k → s[j].toNat ≤ 127 ∧ (0 < j → (s[j - 1]'(by omega)).toNat < s[j].toNat)
theorem okC_all {s : ByteArray} (h : ∀ j (hj : j < s.size), s[j].toNat ≤ 127 ∧ (0 < j → (s[j - 1]'(by omega)).toNat < s[j].toNat)) : decide (okC s) = true := decide_eq_true h
set_option maxHeartbeats 4000000 in
theorem implIsCset (s : ByteArray) (hs : s.size ≤ maxLen) (w : World) : Calls Tryz.prog 84 #[.string s] w fun e w' => e = .returned (.bool (decide (okC s))) ∧ ∃ n, w' = w.drewN n := by
  unfold maxLen at hs
  go_enter Tryz.func84, Tryz.ntmps84
  go_wp2_with fail
  go_loopw [3] (fun i wr => ∃ k : Nat, k ≤ s.size ∧ i = .int .i64 k ∧ Hid (CsRel s k) ∧ Hid (∃ n, wr = w.drewN n))
    (fun i _ => s.size - (intOf i).toNat)
  case atStart => exact ⟨0, by omega, rfl, Lib.hid (fun j _ h => by omega), Lib.hid ⟨0, rfl⟩⟩
  case round =>
    obtain ⟨k, hk, rfl, HN, HB⟩ := hrel
    obtain ⟨dn, hdn⟩ := HB.out
    subst hdn
    clear HB
    by_cases hlt : k < s.size
    · have i0 : (k : Int) < (s.size : Int) := by omega
      have hb0 := byte_bd s[k]
      by_cases h127 : 127 < s[k].toNat
      · have b0 : decide (127 < (s[k].toNat : Int)) = true := decide_eq_true (by omega)
        have HE := Lib.hid (okC_hi hlt h127)
        clear h127 HN
        go_wp2_with fail
        go_quiet (fail)
        go_wp2_with fail
        go_ret
        exact ⟨ret_b HE.out.symm, dn + nq, by first | rfl | rw [World.drewN_drewN]⟩
      · have b0 : decide (127 < (s[k].toNat : Int)) = false := by simp; omega
        by_cases hk0 : 0 < k
        · obtain ⟨m, hm⟩ : ∃ m, m + 1 = k := ⟨k - 1, by omega⟩
          have hz : (k : Int) - 1 = (m : Int) := by omega
          have hz2 : IntKind.i64.wrap ((k : Int) - 1) = (m : Int) := by rw [hz]; exact i64_in' (by omega)
          have hml : m < s.size := by omega
          have i1 : (m : Int) < (s.size : Int) := by omega
          have b1 : decide (0 < (k : Int)) = true := by simpa using hk0
          have hb1 := byte_bd s[m]
          have i2 : IntKind.i64.wrap ((k : Int) + 1) = (k : Int) + 1 := i64_in' (by omega)
          by_cases hf : s[k].toNat ≤ s[m].toNat
          · have b2 : decide ((s[k].toNat : Int) ≤ (s[m].toNat : Int)) = true := decide_eq_true (by omega)
            have HE := Lib.hid (okC_fall hlt hm hf)
            clear hm HN h127
            go_wp2_with fail
            go_quiet (fail)
            go_wp2_with fail
            go_ret
            exact ⟨ret_b HE.out.symm, dn + nq, by first | rfl | rw [World.drewN_drewN]⟩
          · have b2 : decide ((s[k].toNat : Int) ≤ (s[m].toNat : Int)) = false := decide_eq_false (by omega)
            have hg : s[m].toNat < s[k].toNat := by omega
            have HM : Hid (CsRel s (k + 1)) := Lib.hid fun j hj hjk => by
              by_cases e : j = k
              · subst e
                have e2 : j - 1 = m := by omega
                refine ⟨by omega, fun _ => ?_⟩
                simp only [e2]; omega
              · exact HN.out j hj (by omega)
            clear hf hm HN h127
            go_wp2_with fail
            go_quiet (fail)
            go_wp2_with fail
            go_roundw
            case rel => exact ⟨k + 1, by omega, by go_num, HM, Lib.hid ⟨dn + nq, by first | rfl | rw [World.drewN_drewN]⟩⟩
            case measure => simp [intOf]; omega
        · obtain rfl : k = 0 := by omega
          have HM : Hid (CsRel s (0 + 1)) := Lib.hid fun j hj hjk => by
            obtain rfl : j = 0 := by omega
            exact ⟨by omega, fun h => by omega⟩
          clear HN h127 hk0
          go_wp2_with fail
          go_quiet (fail)
          go_wp2_with fail
          go_roundw
          case rel => exact ⟨1, by omega, by go_num, HM, Lib.hid ⟨dn + nq, by first | rfl | rw [World.drewN_drewN]⟩⟩
          case measure => simp [intOf]; omega
    · obtain rfl : k = s.size := by omega
      have HE := Lib.hid (okC_all fun j hj => HN.out j hj hj)
      clear HN
      go_wp2_with fail
      go_ret
      exact ⟨ret_b HE.out.symm, dn, rfl⟩
set_option maxHeartbeats 4000000 in
theorem specLeft (x : X) : ∀ (left : Nat) (s : Value) (P : Nat → Prop) (w : World), Rd w P x s → (∀ b, P b → b < w.heap.size) → left ≤ 1099511627776 → x.cnt ≤ 1099511627776 →
    Calls Tryz.prog 45 #[val x s, .int .i64 (left : Int)] w fun e w' => e = .returned (.int .i64 (leftOf (cnt x) left)) ∧ Below w.heap.size w w' := by
  induction x using X.ind with
  | h k t n l r ih =>
    intro left s P w hR hP hleft hc
    have hK : Kd w P r s := hR.kids
    obtain ⟨A, cap, rfl⟩ := hK.form
    have hc' : 1 + cntL r ≤ 1099511627776 := by simpa [cnt] using hc
    have hlen := len_le_cntL r
    have hE := Lib.hid (show cnt (.mk k t n l r) = 1 + cntL r from by simp [cnt])
    clear hR hc
    show Calls Tryz.prog 45 #[.agg #[.int .i64 k, .string t, .int .i64 n, .int .i64 l, .slice A r.length cap], .int .i64 (left : Int)] w _
    go_enter Tryz.func45, Tryz.ntmps45
    go_wp2_with fail
    go_loopw [1, 5] (fun a i wr => ∃ (j : Nat) (m : Int), i = .int .i64 j ∧ a = .int .i64 m ∧ Hid (m = leftOf (1 + cntL (r.take j)) left) ∧ -1 ≤ m ∧ m ≤ (left : Int) ∧ j ≤ r.length ∧ wr.cell? ⟨w.heap.size, 4, none⟩ = some (.slice A r.length cap) ∧ Below w.heap.size w wr)
      (fun _ i _ => r.length - (intOf i).toNat)
    case atStart => exact ⟨0, (left : Int) - 1, rfl, rfl, Lib.hid (by simp only [List.take_zero, cntL]; unfold leftOf; split <;> omega), by omega, by omega, by omega, by go_simp, (Below.refl _ _).alloc (Nat.le_refl _) _⟩
    case round =>
      obtain ⟨j, m, rfl, rfl, HM, hm1, hm2, hj, hcell, hb⟩ := hrel
      have hsz := hb.size
      have hcl := World.block_lt_of_cell? _ _ hcell
      by_cases hm0 : 0 ≤ m
      · obtain ⟨m, rfl⟩ : ∃ m' : Nat, m = (m' : Int) := ⟨m.toNat, by omega⟩
        by_cases hlt : j < r.length
        · obtain ⟨b, o, s', rfl, hPb, hkid, c0, c1, c2, c3, c4⟩ := Kd.at_ (hK.below hb hP) hlt
          obtain ⟨A1, cap1, rfl⟩ := hkid.form
          have h1 := cntL_take r hlt
          have h0 := cnt_get r hlt
          have h3 := HM.out
          have i0 : (j : Int) < (r.length : Int) := by omega
          obtain ⟨z, hz⟩ : ∃ z, z = leftOf (cnt r[j]) m := ⟨_, rfl⟩
          have hzb : -1 ≤ z ∧ z ≤ (left : Int) := by rw [hz]; unfold leftOf; split <;> omega
          have HN := Lib.hid (show z = leftOf (1 + cntL (r.take (j + 1))) left by
            rw [hz, h1]
            by_cases h4 : 1 + cntL (r.take j) ≤ left
            · rw [leftOf_yes h4] at h3
              have h5 : left - (1 + cntL (r.take j)) = m := by omega
              rw [← h5, ← Nat.add_assoc]
              exact leftOf_add h4 rfl
            · rw [leftOf_no h4] at h3; omega)
          have hC : ∀ W : World, Below wr.heap.size wr W → Calls Tryz.prog 45 #[val r[j] (.slice A1 r[j].r.length cap1), .int .i64 (m : Int)] W fun e w' => e = .returned (.int .i64 z) ∧ Below W.heap.size W w' := fun W hW => by
            rw [hz]
            exact ih j hlt m _ P W (hkid.rd.below hW fun b hb => Nat.lt_of_lt_of_le (hP b hb) hsz) (fun b hb => Nat.lt_of_lt_of_le (hP b hb) (Nat.le_trans hsz hW.size)) (by omega) (by omega)
          obtain ⟨hz1, hz2⟩ := hzb
          clear HM h0 h1 h3 hz
          go_wp2_with (go_at_call 45; refine (hC _ (by repeat (first | exact Below.refl _ _ | refine Below.drew ?_ | refine Below.setCell ?_ (by (try simp); try omega) _ | refine Below.alloc ?_ (by (try simp); try omega) _))).mono ?_; rintro e w1 ⟨rfl, hb1⟩)
          all_goals
            go_roundw
            case rel => exact ⟨j + 1, z, by go_num, rfl, HN, hz1, hz2, by omega, kc1 hb1 hcell, hb.trans (hb1.mono hsz)⟩
            case measure => simp [intOf]; omega
        · obtain rfl : j = r.length := by omega
          have HN := Lib.hid (show (m : Int) = leftOf (cnt (.mk k t n l r)) left by rw [hE.out, HM.out, List.take_length])
          clear HM
          go_wp2_with fail
          go_ret
          exact ⟨ret_z HN.out, hb⟩
      · obtain rfl : m = -1 := by omega
        have HN := Lib.hid (show (-1 : Int) = leftOf (cnt (.mk k t n l r)) left by
          have h3 := HM.out
          have h4 := cntL_le r j
          rw [hE.out]
          by_cases h5 : 1 + cntL (r.take j) ≤ left
          · rw [leftOf_yes h5] at h3; omega
          · rw [leftOf_no (by omega)])
        clear HM
        by_cases hlt : j < r.length
        · go_wp2_with fail
          go_ret
          exact ⟨ret_z HN.out, hb⟩
        · go_wp2_with fail
          go_ret
          exact ⟨ret_z HN.out, hb⟩
end X
end Go.Proofs.YtljblaglfooclaaGreatDoor
