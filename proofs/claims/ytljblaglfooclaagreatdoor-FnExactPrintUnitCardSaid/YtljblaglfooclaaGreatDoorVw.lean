/- Proved here: what the reference's test of a node's text gives, by the node's kind. Condition: the text has at most 2^20 bytes. -/
import Derived.Test.YtljblaglfooclaaGreatDoorKk
import Derived.Test.YtljblaglfooclaaGreatDoorBl
import Derived.Test.YtljblaglfooclaaGreatDoorNm
import Derived.Test.YtljblaglfooclaaGreatDoorGw
import Derived.Deep.RegionHeld3
namespace Go.Proofs.YtljblaglfooclaaGreatDoor
open Go.RowKit
namespace X

theorem kc3 {W w1 : World} {p0 p1 p2 : Addr} {v0 v1 v2 : Value} (hb : Below W.heap.size W w1) (h0 : W.cell? p0 = some v0) (h1 : W.cell? p1 = some v1) (h2 : W.cell? p2 = some v2) : w1.cell? p0 = some v0 ∧ w1.cell? p1 = some v1 ∧ w1.cell? p2 = some v2 := ⟨kc1 hb h0, kc1 hb h1, kc1 hb h2⟩
/-- The level of a binary operator. -/
def lvB (t : ByteArray) : Nat := lvl t zzB 0
/-- What the text of a node must be, by its kind. -/
def wdB (k : Int) (t : ByteArray) : Bool :=
  if k = 2 then decide (t.size ≤ 120) else if k = 3 then decide (okC t) else if k = 4 ∨ k = 13 ∨ k = 28 then nameB t else if k = 5 then Lib.containsS zIsKeyword t else if k = 7 then Lib.containsS zIsUnaryOperator t else if k = 8 then decide (0 < lvB t) else t.toList.isEmpty
theorem wdB_2 (t : ByteArray) : wdB 2 t = decide (t.size ≤ 120) := if_pos rfl
theorem wdB_3 (t : ByteArray) : wdB 3 t = decide (okC t) := by rw [wdB, if_neg (by decide), if_pos rfl]
theorem wdB_n {k : Int} (h : k = 4 ∨ k = 13 ∨ k = 28) (t : ByteArray) : wdB k t = nameB t := by rw [wdB, if_neg (by omega), if_neg (by omega), if_pos h]
theorem wdB_5 (t : ByteArray) : wdB 5 t = Lib.containsS zIsKeyword t := by rw [wdB, if_neg (by decide), if_neg (by decide), if_neg (by decide), if_pos rfl]
theorem wdB_7 (t : ByteArray) : wdB 7 t = Lib.containsS zIsUnaryOperator t := by rw [wdB, if_neg (by decide), if_neg (by decide), if_neg (by decide), if_neg (by decide), if_pos rfl]
theorem wdB_8 (t : ByteArray) : wdB 8 t = decide (0 < lvB t) := by rw [wdB, if_neg (by decide), if_neg (by decide), if_neg (by decide), if_neg (by decide), if_neg (by decide), if_pos rfl]
theorem wdB_0 {k : Int} (h2 : k ≠ 2) (h3 : k ≠ 3) (h4 : k ≠ 4) (h13 : k ≠ 13) (h28 : k ≠ 28) (h5 : k ≠ 5) (h7 : k ≠ 7) (h8 : k ≠ 8) (t : ByteArray) : wdB k t = t.toList.isEmpty := by
  rw [wdB, if_neg h2, if_neg h3, if_neg (by omega), if_neg h5, if_neg h7, if_neg h8]
theorem lvB_bd (t : ByteArray) : lvB t ≤ 11 := by
  unfold lvB
  have key : ∀ (rs : List (List ByteArray)) (i : Nat), lvl t rs i ≤ i + rs.length := by
    intro rs
    induction rs with
    | nil => intro i; simp [lvl]
    | cons r rs ih =>
      intro i
      simp only [lvl]
      split
      · simp
      · have := ih (i + 1)
        simp only [List.length_cons]; omega
  exact key zzB 0
theorem setEq {l : List UInt8} {t : ByteArray} : (l == t.toList) = decide (l = t.data.toList) := by
  rw [ByteArray.toList_eq, Bool.eq_iff_iff, beq_iff_eq, decide_eq_true_eq]
set_option maxHeartbeats 8000000 in
theorem specWords (k : Int) (t : ByteArray) (n l : Int) (s : Value) (ht : t.size ≤ 1048576) (w : World) : Calls Tryz.prog 76 #[.agg #[.int .i64 k, .string t, .int .i64 n, .int .i64 l, s]] w fun e w' => e = .returned (.bool (wdB k t)) ∧ Below w.heap.size w w' := by
  by_cases h2 : k = 2
  · subst h2
    have E := Lib.hid (wdB_2 t)
    go_enter Tryz.func76, Tryz.ntmps76
    go_wp2
    go_ret
    exact ⟨ret_b (by rw [E.out]; exact decide_eq_decide.2 (by omega)), by repeat (first | exact Below.refl _ _ | refine Below.drew ?_ | refine Below.setCell ?_ (by (try simp); try omega) _ | refine Below.alloc ?_ (by (try simp); try omega) _)⟩
  have b2 : (k == 2) = false := by rw [beq_eq_false_iff_ne]; exact h2
  by_cases h3 : k = 3
  · subst h3
    clear h2 b2
    have E0 := okC_ref t
    rw [← wdB_3] at E0
    have hN := specNew t ht
    generalize (newC t.data.toList).1.1 = a at E0 hN
    generalize (newC t.data.toList).1.2 = b at E0 hN
    generalize (newC t.data.toList).2 = ok at E0 hN
    have hT := specCsetText a b
    cases ok with
    | true =>
      have HE := Lib.hid (show wdB 3 t = (csetL a b == t.toList) by rw [E0, setEq]; rfl)
      clear E0
      obtain ⟨L, hL⟩ : ∃ L, L = csetL a b := ⟨_, rfl⟩
      rw [← hL] at hT
      have HL := Lib.hid hL
      clear hL
      go_enter Tryz.func76, Tryz.ntmps76
      go_upto_region 6 with (go_at_call 50; refine (hN _).mono ?_; rintro e w1 ⟨rfl, hb1⟩; have c1 := kc1 (p := ⟨w.heap.size, 1, none⟩) (v := .string t) hb1 (by go_simp); have hz1 := hb1.size; (try simp at hz1))
      have g1 : w.heap.size < w1.heap.size := World.block_lt_of_cell? _ _ c1
      go_region_held3 (fun w' => w'.cell? ⟨w.heap.size, 1, none⟩ = some (.string t) ∧ w'.cell? ⟨w1.heap.size, 0, none⟩ = some (.int .i64 a) ∧ w'.cell? ⟨w1.heap.size, 1, none⟩ = some (.int .i64 b)) ((refine kc3 (W := w1.alloc (.cells #[.int .i64 a, .int .i64 b] 83)) ?_ (by go_simp) (by go_simp) (by go_simp); repeat (first | exact Below.refl _ _ | refine Below.drew ?_ | refine Below.alloc ?_ (by (try simp); try omega) _ | refine Below.trans ?_ (hb3.mono (by (try simp); try omega)) | refine Below.trans ?_ (hb4.mono (by (try simp); try omega)) | refine Below.trans ?_ (hb5.mono (by (try simp); try omega)))))
        (first | (go_at_call 79; refine (hT _).mono ?_; rintro e w3 ⟨rfl, hb3⟩))
      all_goals
        go_wp2_with fail
        go_ret
        have hbb : Below w.heap.size w w1 := Below.trans (by repeat (first | exact Below.refl _ _ | refine Below.drew ?_ | refine Below.setCell ?_ (by (try simp); try omega) _ | refine Below.alloc ?_ (by (try simp); try omega) _)) (hb1.mono (by simp))
        exact ⟨ret_b (by rw [HE.out, HL.out]), hbb.trans (Below.mono (B := w1.heap.size) (by repeat (first | exact Below.refl _ _ | refine Below.drew ?_ | refine Below.alloc ?_ (by (try simp); try omega) _ | refine Below.trans ?_ (hb3.mono (by (try simp); try omega)) | refine Below.trans ?_ (hb4.mono (by (try simp); try omega)) | refine Below.trans ?_ (hb5.mono (by (try simp); try omega)))) hbb.size)⟩
    | false =>
      have HE := Lib.hid (show wdB 3 t = false by rw [E0]; rfl)
      clear E0
      go_enter Tryz.func76, Tryz.ntmps76
      go_upto_region 6 with (go_at_call 50; refine (hN _).mono ?_; rintro e w1 ⟨rfl, hb1⟩; have c1 := kc1 (p := ⟨w.heap.size, 1, none⟩) (v := .string t) hb1 (by go_simp); have hz1 := hb1.size; (try simp at hz1))
      go_quiet (fail)
      go_wp2_with fail
      go_ret
      have hbb : Below w.heap.size w w1 := Below.trans (by repeat (first | exact Below.refl _ _ | refine Below.drew ?_ | refine Below.setCell ?_ (by (try simp); try omega) _ | refine Below.alloc ?_ (by (try simp); try omega) _)) (hb1.mono (by simp))
      exact ⟨ret_b HE.out.symm, below_drewN (hbb.alloc hbb.size _) _⟩
  have b3 : (k == 3) = false := by rw [beq_eq_false_iff_ne]; exact h3
  by_cases h4 : k = 4
  · subst h4
    clear h2 b2 h3 b3
    have E := Lib.hid (wdB_n (k := 4) (by omega) t)
    go_enter Tryz.func76, Tryz.ntmps76
    go_wp2_with (go_at_call 27; refine (specName t ht _).mono ?_; rintro e w1 ⟨rfl, hb1⟩)
    go_ret
    exact ⟨ret_b E.out.symm, Below.trans (by repeat (first | exact Below.refl _ _ | refine Below.drew ?_ | refine Below.setCell ?_ (by (try simp); try omega) _ | refine Below.alloc ?_ (by (try simp); try omega) _)) (hb1.mono (by simp))⟩
  have b4 : (k == 4) = false := by rw [beq_eq_false_iff_ne]; exact h4
  by_cases h13 : k = 13
  · subst h13
    clear h2 b2 h3 b3 h4 b4
    have E := Lib.hid (wdB_n (k := 13) (by omega) t)
    go_enter Tryz.func76, Tryz.ntmps76
    go_wp2_with (go_at_call 27; refine (specName t ht _).mono ?_; rintro e w1 ⟨rfl, hb1⟩)
    go_ret
    exact ⟨ret_b E.out.symm, Below.trans (by repeat (first | exact Below.refl _ _ | refine Below.drew ?_ | refine Below.setCell ?_ (by (try simp); try omega) _ | refine Below.alloc ?_ (by (try simp); try omega) _)) (hb1.mono (by simp))⟩
  have b13 : (k == 13) = false := by rw [beq_eq_false_iff_ne]; exact h13
  by_cases h28 : k = 28
  · subst h28
    clear h2 b2 h3 b3 h4 b4 h13 b13
    have E := Lib.hid (wdB_n (k := 28) (by omega) t)
    go_enter Tryz.func76, Tryz.ntmps76
    go_wp2_with (go_at_call 27; refine (specName t ht _).mono ?_; rintro e w1 ⟨rfl, hb1⟩)
    go_ret
    exact ⟨ret_b E.out.symm, Below.trans (by repeat (first | exact Below.refl _ _ | refine Below.drew ?_ | refine Below.setCell ?_ (by (try simp); try omega) _ | refine Below.alloc ?_ (by (try simp); try omega) _)) (hb1.mono (by simp))⟩
  have b28 : (k == 28) = false := by rw [beq_eq_false_iff_ne]; exact h28
  by_cases h5 : k = 5
  · subst h5
    clear h2 b2 h3 b3 h4 b4 h13 b13 h28 b28
    have E := Lib.hid (wdB_5 t)
    go_enter Tryz.func76, Tryz.ntmps76
    go_wp2_with (go_at_call 95; refine (specIsKeyword t _).mono ?_; rintro e w1 ⟨rfl, hb1⟩)
    go_ret
    exact ⟨ret_b E.out.symm, Below.trans (by repeat (first | exact Below.refl _ _ | refine Below.drew ?_ | refine Below.setCell ?_ (by (try simp); try omega) _ | refine Below.alloc ?_ (by (try simp); try omega) _)) (hb1.mono (by simp))⟩
  have b5 : (k == 5) = false := by rw [beq_eq_false_iff_ne]; exact h5
  by_cases h7 : k = 7
  · subst h7
    clear h2 b2 h3 b3 h4 b4 h13 b13 h28 b28 h5 b5
    have E := Lib.hid (wdB_7 t)
    go_enter Tryz.func76, Tryz.ntmps76
    go_wp2_with (go_at_call 96; refine (specIsUnaryOperator t _).mono ?_; rintro e w1 ⟨rfl, hb1⟩)
    go_ret
    exact ⟨ret_b E.out.symm, Below.trans (by repeat (first | exact Below.refl _ _ | refine Below.drew ?_ | refine Below.setCell ?_ (by (try simp); try omega) _ | refine Below.alloc ?_ (by (try simp); try omega) _)) (hb1.mono (by simp))⟩
  have b7 : (k == 7) = false := by rw [beq_eq_false_iff_ne]; exact h7
  by_cases h8 : k = 8
  · subst h8
    clear h2 b2 h3 b3 h4 b4 h13 b13 h28 b28 h5 b5 h7 b7
    have hl := lvB_bd t
    have hL : ∀ W : World, Calls Tryz.prog 47 #[.string t] W fun e w' => e = .returned (.int .i64 (lvB t : Nat)) ∧ Below W.heap.size W w' := specLevel t
    have E := Lib.hid (wdB_8 t)
    generalize lvB t = m at hl hL E
    have HE := Lib.hid (show decide (0 < (m : Int)) = wdB 8 t by rw [E.out]; exact decide_eq_decide.2 (by omega))
    go_enter Tryz.func76, Tryz.ntmps76
    go_wp2_with (go_at_call 47; refine (hL _).mono ?_; rintro e w1 ⟨rfl, hb1⟩)
    go_ret
    exact ⟨ret_b (by rw [← HE.out]; first | rfl | simp), Below.trans (by repeat (first | exact Below.refl _ _ | refine Below.drew ?_ | refine Below.setCell ?_ (by (try simp); try omega) _ | refine Below.alloc ?_ (by (try simp); try omega) _)) (hb1.mono (by simp))⟩
  have b8 : (k == 8) = false := by rw [beq_eq_false_iff_ne]; exact h8
  have E := Lib.hid (wdB_0 h2 h3 h4 h13 h28 h5 h7 h8 t)
  clear h2 h3 h4 h13 h28 h5 h7 h8
  go_enter Tryz.func76, Tryz.ntmps76
  go_wp2
  go_ret
  exact ⟨ret_b E.out.symm, by repeat (first | exact Below.refl _ _ | refine Below.drew ?_ | refine Below.setCell ?_ (by (try simp); try omega) _ | refine Below.alloc ?_ (by (try simp); try omega) _)⟩
end X
end Go.Proofs.YtljblaglfooclaaGreatDoor
