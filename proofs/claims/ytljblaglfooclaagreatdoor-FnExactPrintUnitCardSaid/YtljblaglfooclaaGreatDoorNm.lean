/- Proved here: what IsName gives, of the program and of the reference. Condition: at most 1048576 bytes; the listed table of white space lies in memory (the program's form alone). -/
import Derived.Test.YtljblaglfooclaaGreatDoorKw
import Derived.Test.YtljblaglfooclaaGreatDoorPl
namespace Go.Proofs.YtljblaglfooclaaGreatDoor
open Go.RowKit

theorem byte_bdN (x : UInt8) : x.toNat ≤ 255 := by have := x.toNat_lt; omega
theorem let_parts (x : UInt8) : (x.toNat < 65 ∧ letB x = false) ∨ (65 ≤ x.toNat ∧ x.toNat ≤ 90 ∧ letB x = true) ∨ (90 < x.toNat ∧ x.toNat < 95 ∧ letB x = false) ∨ (x.toNat = 95 ∧ letB x = true) ∨ (x.toNat = 96 ∧ letB x = false) ∨ (97 ≤ x.toNat ∧ x.toNat ≤ 122 ∧ letB x = true) ∨ (122 < x.toNat ∧ letB x = false) := by
  unfold letB
  simp only [decide_eq_true_eq, decide_eq_false_iff_not]
  omega
theorem dig_parts (x : UInt8) : (x.toNat < 48 ∧ digB x = false) ∨ (48 ≤ x.toNat ∧ x.toNat ≤ 57 ∧ digB x = true) ∨ (57 < x.toNat ∧ digB x = false) := by
  unfold digB
  simp only [decide_eq_true_eq, decide_eq_false_iff_not]
  omega
theorem let_dig {x : UInt8} (h : digB x = true) : letB x = false := by
  unfold digB at h; unfold letB
  simp only [decide_eq_true_eq, decide_eq_false_iff_not] at h ⊢
  omega
theorem implLetter (x : UInt8) (w : World) : Calls Tryz.prog 57 #[.int .u8 (x.toNat : Int)] w fun e w' => e = .returned (.bool (letB x)) ∧ w = w' := by
  have hx := byte_bdN x
  rcases let_parts x with ⟨h, hv⟩ | ⟨h, h2, hv⟩ | ⟨h, h2, hv⟩ | ⟨h, hv⟩ | ⟨h, hv⟩ | ⟨h, h2, hv⟩ | ⟨h, hv⟩
  all_goals
    have E := Lib.hid hv
    clear hv
    go_enter Tryz.func57, Tryz.ntmps57
    go_wp2
    go_ret
    refine ⟨ret_bk (Eq.trans ?_ E.out.symm), rfl⟩
    clear E
    first
    | rfl
    | (generalize x.toNat = n at *; simp <;> omega)
theorem implDigit (x : UInt8) (w : World) : Calls Tryz.prog 55 #[.int .u8 (x.toNat : Int)] w fun e w' => e = .returned (.bool (digB x)) ∧ w = w' := by
  have hx := byte_bdN x
  rcases dig_parts x with ⟨h, hv⟩ | ⟨h, h2, hv⟩ | ⟨h, hv⟩
  all_goals
    have E := Lib.hid hv
    clear hv
    go_enter Tryz.func55, Tryz.ntmps55
    go_wp2
    go_ret
    refine ⟨ret_bk (Eq.trans ?_ E.out.symm), rfl⟩
    clear E
    first
    | rfl
    | (generalize x.toNat = n at *; simp <;> omega)
theorem specLetter (x : UInt8) (w : World) : Calls Tryz.prog 42 #[.int .u8 (x.toNat : Int)] w fun e w' => e = .returned (.bool (letB x)) ∧ w = w' := by
  have hx := byte_bdN x
  rcases let_parts x with ⟨h, hv⟩ | ⟨h, h2, hv⟩ | ⟨h, h2, hv⟩ | ⟨h, hv⟩ | ⟨h, hv⟩ | ⟨h, h2, hv⟩ | ⟨h, hv⟩
  all_goals
    have E := Lib.hid hv
    clear hv
    go_enter Tryz.func42, Tryz.ntmps42
    go_wp2
    go_ret
    refine ⟨ret_bk (Eq.trans ?_ E.out.symm), rfl⟩
    clear E
    first
    | rfl
    | (generalize x.toNat = n at *; simp <;> omega)
theorem specDigit (x : UInt8) (w : World) : Calls Tryz.prog 44 #[.int .u8 (x.toNat : Int)] w fun e w' => e = .returned (.bool (digB x)) ∧ w = w' := by
  have hx := byte_bdN x
  rcases dig_parts x with ⟨h, hv⟩ | ⟨h, h2, hv⟩ | ⟨h, hv⟩
  all_goals
    have E := Lib.hid hv
    clear hv
    go_enter Tryz.func44, Tryz.ntmps44
    go_wp2
    go_ret
    refine ⟨ret_bk (Eq.trans ?_ E.out.symm), rfl⟩
    clear E
    first
    | rfl
    | (generalize x.toNat = n at *; simp <;> omega)
/-- All bytes are letters or digits. -/
def okN (s : ByteArray) : Prop := ∀ j (h : j < s.size), letB s[j] = true ∨ digB s[j] = true
instance (s : ByteArray) : Decidable (okN s) := inferInstanceAs (Decidable (∀ j (h : j < s.size), letB s[j] = true ∨ digB s[j] = true))
/-- A name. -/
def nameB (s : ByteArray) : Bool := if h : 1 ≤ s.size ∧ s.size ≤ 12 then letB s[0] && !Lib.containsS zIsReserved s && decide (okN s) else false
theorem name_short {s : ByteArray} (h : s.size < 1) : nameB s = false := by unfold nameB; rw [dif_neg (by omega)]
theorem name_long {s : ByteArray} (h : 12 < s.size) : nameB s = false := by unfold nameB; rw [dif_neg (by omega)]
theorem name_first {s : ByteArray} (h0 : 0 < s.size) (h : letB s[0] = false) : nameB s = false := by
  unfold nameB; split
  · rw [h]; rfl
  · rfl
theorem name_res {s : ByteArray} (h : Lib.containsS zIsReserved s = true) : nameB s = false := by
  unfold nameB; split
  · rw [h]; simp
  · rfl
theorem name_bad {s : ByteArray} {k : Nat} (hk : k < s.size) (h1 : letB s[k] = false) (h2 : digB s[k] = false) : nameB s = false := by
  unfold nameB; split
  · have : ¬ okN s := fun hn => by
      rcases hn k hk with h | h
      · rw [h1] at h; cases h
      · rw [h2] at h; cases h
    simp [this]
  · rfl
theorem name_good {s : ByteArray} (h1 : 1 ≤ s.size) (h2 : s.size ≤ 12) (hd : digB s[0] = false ∨ letB s[0] = true) (hr : Lib.containsS zIsReserved s = false) (hn : okN s) : nameB s = true := by
  unfold nameB
  rw [dif_pos ⟨h1, h2⟩, hr]
  have : letB s[0] = true := by
    rcases hd with hd | hd
    · rcases hn 0 (by omega) with h | h
      · exact h
      · rw [hd] at h; cases h
    · exact hd
  simp [this, hn]
set_option maxHeartbeats 4000000 in
theorem implName (s : ByteArray) (hs : s.size ≤ 1048576) (w : World) (ht : Lib.TabIs Tryz.prog w "strings.asciiSpace" .u8 Lib.asciiSpaceTab) : Calls Tryz.prog 34 #[.string s] w fun e w' => e = .returned (.bool (nameB s)) ∧ Below w.heap.size w w' := by
  have hR := implIsReserved s w ht
  clear ht
  by_cases h1 : s.size < 1
  · have E := Lib.hid (name_short h1)
    clear hR
    go_enter Tryz.func34, Tryz.ntmps34
    go_wp2
    go_ret
    exact ⟨ret_bk E.out.symm, Below.refl _ _⟩
  by_cases h2 : 12 < s.size
  · have E := Lib.hid (name_long h2)
    clear hR
    go_enter Tryz.func34, Tryz.ntmps34
    go_wp2
    go_ret
    exact ⟨ret_bk E.out.symm, Below.refl _ _⟩
  have h0 : 0 < s.size := by omega
  have hF := implDigit s[0] w
  cases hd : digB s[0] with
  | true =>
    rw [hd] at hF
    have E := Lib.hid (name_first h0 (let_dig hd))
    clear hd hR
    go_enter Tryz.func34, Tryz.ntmps34
    go_wp2_with (go_at_call 55; refine hF.mono ?_; rintro e w' ⟨rfl, rfl⟩)
    go_ret
    exact ⟨ret_bk E.out.symm, Below.refl _ _⟩
  | false =>
    rw [hd] at hF
    cases hr : Lib.containsS zIsReserved s with
    | true =>
      rw [hr] at hR
      have E := Lib.hid (name_res hr)
      clear hd hr
      go_enter Tryz.func34, Tryz.ntmps34
      go_wp2_with (first
        | (go_at_call 55; refine hF.mono ?_; rintro e w' ⟨rfl, rfl⟩)
        | (go_at_call 56; refine hR.mono ?_; rintro e w1 ⟨rfl, hb1⟩))
      go_ret
      exact ⟨ret_bk E.out.symm, hb1⟩
    | false =>
      rw [hr] at hR
      have HG := Lib.hid (fun hn => name_good (by omega) (by omega) (.inl hd) hr hn : okN s → nameB s = true)
      clear hd hr
      go_enter Tryz.func34, Tryz.ntmps34
      go_wp2_with (first
        | (go_at_call 55; refine hF.mono ?_; rintro e w' ⟨rfl, rfl⟩)
        | (go_at_call 56; refine hR.mono ?_; rintro e w1 ⟨rfl, hb1⟩))
      clear hF hR
      go_loopw [3] (fun i wr => ∃ k : Nat, k ≤ s.size ∧ i = .int .i64 k ∧ Hid (∀ j (h : j < s.size), j < k → letB s[j] = true ∨ digB s[j] = true) ∧ Below w.heap.size w wr)
        (fun i _ => s.size - (intOf i).toNat)
      case atStart => exact ⟨0, by omega, rfl, Lib.hid (fun j _ h => by omega), hb1⟩
      case round =>
        obtain ⟨k, hk, rfl, HN, hb⟩ := hrel
        by_cases hks : k < s.size
        · have i0 : (k : Int) < (s.size : Int) := by omega
          have i1 : IntKind.i64.wrap ((k : Int) + 1) = (k : Int) + 1 := i64_in' (by omega)
          have hL := implLetter s[k]
          have hD := implDigit s[k]
          cases hl : letB s[k] with
          | true =>
            rw [hl] at hL
            have HL := Lib.hid hl
            clear hl hD
            go_wp2_with (go_at_call 57; refine (hL _).mono ?_; rintro e w' ⟨rfl, rfl⟩)
            go_roundw
            case rel => exact ⟨k + 1, by omega, by go_num, Lib.hid (fun j hj hjk => (by
              rcases Nat.lt_or_ge j k with h3 | h3
              · exact HN.out j hj h3
              · obtain rfl : j = k := by omega
                exact .inl HL.out)), hb⟩
            case measure => simp [intOf]; omega
          | false =>
            rw [hl] at hL
            cases hd : digB s[k] with
            | true =>
              rw [hd] at hD
              have HL := Lib.hid hd
              clear hl hd
              go_wp2_with (first
                | (go_at_call 57; refine (hL _).mono ?_; rintro e w' ⟨rfl, rfl⟩)
                | (go_at_call 55; refine (hD _).mono ?_; rintro e w' ⟨rfl, rfl⟩))
              go_roundw
              case rel => exact ⟨k + 1, by omega, by go_num, Lib.hid (fun j hj hjk => (by
                rcases Nat.lt_or_ge j k with h3 | h3
                · exact HN.out j hj h3
                · obtain rfl : j = k := by omega
                  exact .inr HL.out)), hb⟩
              case measure => simp [intOf]; omega
            | false =>
              rw [hd] at hD
              have E := Lib.hid (name_bad hks hl hd)
              clear hl hd
              go_wp2_with (first
                | (go_at_call 57; refine (hL _).mono ?_; rintro e w' ⟨rfl, rfl⟩)
                | (go_at_call 55; refine (hD _).mono ?_; rintro e w' ⟨rfl, rfl⟩))
              go_ret
              exact ⟨ret_bk E.out.symm, hb⟩
        · have E := Lib.hid (HG.out fun j hj => HN.out j hj (by omega))
          have i0 : ¬ (k : Int) < (s.size : Int) := by omega
          go_wp2
          go_ret
          exact ⟨ret_bk E.out.symm, hb⟩
set_option maxHeartbeats 4000000 in
theorem specName (s : ByteArray) (hs : s.size ≤ 1048576) (w : World) : Calls Tryz.prog 27 #[.string s] w fun e w' => e = .returned (.bool (nameB s)) ∧ Below w.heap.size w w' := by
  have hR := specIsReserved s w
  skip
  by_cases h1 : s.size < 1
  · have E := Lib.hid (name_short h1)
    clear hR
    go_enter Tryz.func27, Tryz.ntmps27
    go_wp2
    go_ret
    exact ⟨ret_bk E.out.symm, Below.refl _ _⟩
  by_cases h2 : 12 < s.size
  · have E := Lib.hid (name_long h2)
    clear hR
    go_enter Tryz.func27, Tryz.ntmps27
    go_wp2
    go_ret
    exact ⟨ret_bk E.out.symm, Below.refl _ _⟩
  have h0 : 0 < s.size := by omega
  have hF := specLetter s[0] w
  cases hd : letB s[0] with
  | false =>
    rw [hd] at hF
    have E := Lib.hid (name_first h0 (hd))
    clear hd hR
    go_enter Tryz.func27, Tryz.ntmps27
    go_wp2_with (go_at_call 42; refine hF.mono ?_; rintro e w' ⟨rfl, rfl⟩)
    go_ret
    exact ⟨ret_bk E.out.symm, Below.refl _ _⟩
  | true =>
    rw [hd] at hF
    cases hr : Lib.containsS zIsReserved s with
    | true =>
      rw [hr] at hR
      have E := Lib.hid (name_res hr)
      clear hd hr
      go_enter Tryz.func27, Tryz.ntmps27
      go_wp2_with (first
        | (go_at_call 42; refine hF.mono ?_; rintro e w' ⟨rfl, rfl⟩)
        | (go_at_call 43; refine hR.mono ?_; rintro e w1 ⟨rfl, hb1⟩))
      go_ret
      exact ⟨ret_bk E.out.symm, hb1⟩
    | false =>
      rw [hr] at hR
      have HG := Lib.hid (fun hn => name_good (by omega) (by omega) (.inr hd) hr hn : okN s → nameB s = true)
      clear hd hr
      go_enter Tryz.func27, Tryz.ntmps27
      go_wp2_with (first
        | (go_at_call 42; refine hF.mono ?_; rintro e w' ⟨rfl, rfl⟩)
        | (go_at_call 43; refine hR.mono ?_; rintro e w1 ⟨rfl, hb1⟩))
      clear hF hR
      go_loopw [3] (fun i wr => ∃ k : Nat, k ≤ s.size ∧ i = .int .i64 k ∧ Hid (∀ j (h : j < s.size), j < k → letB s[j] = true ∨ digB s[j] = true) ∧ Below w.heap.size w wr)
        (fun i _ => s.size - (intOf i).toNat)
      case atStart => exact ⟨0, by omega, rfl, Lib.hid (fun j _ h => by omega), hb1⟩
      case round =>
        obtain ⟨k, hk, rfl, HN, hb⟩ := hrel
        by_cases hks : k < s.size
        · have i0 : (k : Int) < (s.size : Int) := by omega
          have i1 : IntKind.i64.wrap ((k : Int) + 1) = (k : Int) + 1 := i64_in' (by omega)
          have hL := specLetter s[k]
          have hD := specDigit s[k]
          cases hl : letB s[k] with
          | true =>
            rw [hl] at hL
            have HL := Lib.hid hl
            clear hl hD
            go_wp2_with (go_at_call 42; refine (hL _).mono ?_; rintro e w' ⟨rfl, rfl⟩)
            go_roundw
            case rel => exact ⟨k + 1, by omega, by go_num, Lib.hid (fun j hj hjk => (by
              rcases Nat.lt_or_ge j k with h3 | h3
              · exact HN.out j hj h3
              · obtain rfl : j = k := by omega
                exact .inl HL.out)), hb⟩
            case measure => simp [intOf]; omega
          | false =>
            rw [hl] at hL
            cases hd : digB s[k] with
            | true =>
              rw [hd] at hD
              have HL := Lib.hid hd
              clear hl hd
              go_wp2_with (first
                | (go_at_call 42; refine (hL _).mono ?_; rintro e w' ⟨rfl, rfl⟩)
                | (go_at_call 44; refine (hD _).mono ?_; rintro e w' ⟨rfl, rfl⟩))
              go_roundw
              case rel => exact ⟨k + 1, by omega, by go_num, Lib.hid (fun j hj hjk => (by
                rcases Nat.lt_or_ge j k with h3 | h3
                · exact HN.out j hj h3
                · obtain rfl : j = k := by omega
                  exact .inr HL.out)), hb⟩
              case measure => simp [intOf]; omega
            | false =>
              rw [hd] at hD
              have E := Lib.hid (name_bad hks hl hd)
              clear hl hd
              go_wp2_with (first
                | (go_at_call 42; refine (hL _).mono ?_; rintro e w' ⟨rfl, rfl⟩)
                | (go_at_call 44; refine (hD _).mono ?_; rintro e w' ⟨rfl, rfl⟩))
              go_ret
              exact ⟨ret_bk E.out.symm, hb⟩
        · have E := Lib.hid (HG.out fun j hj => HN.out j hj (by omega))
          have i0 : ¬ (k : Int) < (s.size : Int) := by omega
          go_wp2
          go_ret
          exact ⟨ret_bk E.out.symm, hb⟩
end Go.Proofs.YtljblaglfooclaaGreatDoor
