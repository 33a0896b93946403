/- Proved here: what the quoting functions return. Condition: a text has at most 2^20 bytes. Proved here: what QuoteCset returns, of the program and of the reference: the quoted elements. No condition. -/
import Derived.Test.YtljblaglfooclaaGreatDoorBuf
import Derived.Test.YtljblaglfooclaaGreatDoorPl
import Derived.Test.YtljblaglfooclaaGreatDoorHeld
import Derived.Test.YtljblaglfooclaaGreatDoorSe
namespace Go.Proofs.YtljblaglfooclaaGreatDoor
open Go.RowKit

theorem hexAtFin : ∀ i : Fin 16, (ByteArray.mk #[48, 49, 50, 51, 52, 53, 54, 55, 56, 57, 97, 98, 99, 100, 101, 102])[i.val]'(by simp [ByteArray.size]) = hexD i.val := by decide
theorem hexAt (i : Nat) (hi : i < 16) (p : i < (ByteArray.mk #[48, 49, 50, 51, 52, 53, 54, 55, 56, 57, 97, 98, 99, 100, 101, 102]).size) : (ByteArray.mk #[48, 49, 50, 51, 52, 53, 54, 55, 56, 57, 97, 98, 99, 100, 101, 102])[i]'p = hexD i := hexAtFin ⟨i, hi⟩
theorem hexCells (i j : Nat) (hi : i < 16) (hj : j < 16) (p : i < (ByteArray.mk #[48, 49, 50, 51, 52, 53, 54, 55, 56, 57, 97, 98, 99, 100, 101, 102]).size) (q : j < (ByteArray.mk #[48, 49, 50, 51, 52, 53, 54, 55, 56, 57, 97, 98, 99, 100, 101, 102]).size) :
    (#[Value.int .u8 92, .int .u8 120, .int .u8 (((ByteArray.mk #[48, 49, 50, 51, 52, 53, 54, 55, 56, 57, 97, 98, 99, 100, 101, 102])[i]'p).toNat : Int), .int .u8 (((ByteArray.mk #[48, 49, 50, 51, 52, 53, 54, 55, 56, 57, 97, 98, 99, 100, 101, 102])[j]'q).toNat : Int)] : Array Value).toList = bytesV [92, 120, hexD i, hexD j] := by
  rw [hexAt i hi, hexAt j hj]; rfl
theorem and15 (n : Nat) (h : n < 256) : bits .and .u8 (n : Int) 15 = (n : Int) % 16 := by
  have := bits_mask .u8 8 (by decide) wraps_u8 4 (by decide) (n : Int) (by omega) (by omega)
  simpa using this
theorem esc_hex {q b : UInt8} (h1 : ¬ b = q) (h2 : ¬ b = 92) (h3 : ¬ b = 10) (h4 : ¬ b = 9) (h5 : b.toNat < 32 ∨ 126 < b.toNat) : escB q b = [92, 120, hexD (b.toNat / 16), hexD (b.toNat % 16)] := by simp [escB, h1, h2, h3, h4, h5]
theorem esc_self {q b : UInt8} (h : b = q ∨ b = 92) : escB q b = [92, b] := by rw [escB, if_pos h]
theorem esc_nl {q b : UInt8} (h1 : ¬ b = q) (h3 : b = 10) : escB q b = [92, 110] := by subst h3; simp [escB, h1]
theorem esc_tab {q b : UInt8} (h1 : ¬ b = q) (h3 : b = 9) : escB q b = [92, 116] := by subst h3; simp [escB, h1]
theorem esc_plain {q b : UInt8} (h1 : ¬ b = q) (h2 : ¬ b = 92) (h3 : ¬ b = 10) (h4 : ¬ b = 9) (h5 : ¬ (b.toNat < 32 ∨ 126 < b.toNat)) : escB q b = [b] := by simp [escB, h1, h2, h3, h4, h5]
theorem eqI {b c : UInt8} (h : b = c) : ((b.toNat : Int) == (c.toNat : Int)) = true := by subst h; simp
theorem neI {b c : UInt8} (h : ¬ b = c) : ((b.toNat : Int) == (c.toNat : Int)) = false := by
  rw [beq_eq_false_iff_ne]; intro e; exact h (UInt8.toNat_inj.1 (by omega))
theorem toNat_ne {b c : UInt8} (h : ¬ b = c) : b.toNat ≠ c.toNat := fun e => h (UInt8.toNat_inj.1 e)
theorem takeQ (s : ByteArray) (k : Nat) (h : k < s.size) (q : UInt8) : q :: escL q (s.data.toList.take (k + 1)) = (q :: escL q (s.data.toList.take k)) ++ escB q s[k] := by
  rw [List.take_succ_eq_append_getElem (by simpa using h), escL_snoc, List.cons_append]; rfl
theorem quote_done (q : UInt8) (l : List UInt8) : q :: escL q l ++ [q] = quoteL q l := rfl
theorem one_cell (q : UInt8) : (#[Value.int .u8 (q.toNat : Int)] : Array Value).toList = bytesV [q] := rfl

set_option maxHeartbeats 4000000 in
set_option maxRecDepth 10000 in
theorem implQuote0 (s : ByteArray) (hs : s.size ≤ 1048576) (q : UInt8) (w : World) : Calls Tryz.prog 90 #[.string s, .int .u8 (q.toNat : Int)] w fun e w' => e = .returned (txt (quoteL q s.data.toList)) ∧ Below w.heap.size w w' := by
  have hq := byte_bd q
  go_enter Tryz.func90, Tryz.ntmps90
  go_wp2
  go_loopw [5, 6, 7] (fun v i _ wr => ∃ k : Nat, k ≤ s.size ∧ i = .int .i64 k ∧ Buf wr w.heap.size v (q :: escL q (s.data.toList.take k)) ∧ Below w.heap.size w wr)
    (fun _ i _ _ => s.size - (intOf i).toNat)
  case atStart => exact ⟨0, by omega, rfl, Buf.lit w w.heap.size [q] (Nat.le_refl _) (by simp [maxLen]), (Below.refl _ _).alloc (Nat.le_refl _) _⟩
  case round =>
    obtain ⟨k, hk, rfl, hown, hb⟩ := hrel
    have hsz := hb.size
    have hl := escL_len q (s.data.toList.take k)
    have hl2 : (s.data.toList.take k).length ≤ s.size := by simp; omega
    have hl3 : (q :: escL q (s.data.toList.take k)).length ≤ 4 * s.size + 1 := by simp only [List.length_cons]; omega
    clear hl hl2
    by_cases h0 : k = s.size
    · subst h0
      have e1 : s.data.toList.take s.size = s.data.toList := List.take_of_length_le (by simp)
      rw [e1] at hown hl3
      clear e1
      go_wp2_with (at_builtin; refine wpList_append_lit rfl _ _ rfl rfl hown 1 rfl (by simp) [q] rfl rfl (by omega) (by omega) ?_; intro v1 w1 hown1 hb1; have hcv := run_text hown1)
      go_ret
      exact ⟨by rw [← quote_done]; rfl, hb.trans hb1⟩
    · have hlt : k < s.size := by omega
      have HT := Lib.hid (takeQ s k hlt q)
      have hx := byte_bd s[k]
      by_cases c1 : s[k] = q
      · have b1 := eqI c1
        have HE := Lib.hid (esc_self (.inl c1) : escB q s[k] = _)
        clear c1
        go_wp2_with (at_builtin; refine wpList_append_lit rfl _ _ rfl rfl hown 2 rfl (by simp) [92, s[k]] rfl rfl (by omega) (by omega) ?_; intro v1 w1 hown1 hb1)
        go_roundw
        case rel => exact ⟨k + 1, by omega, by go_num, by rw [HT.out, HE.out]; exact hown1, hb.trans hb1⟩
        case measure => simp [intOf]; omega
      · have b1 := neI c1
        by_cases c2 : s[k] = 92
        · have b2 : ((s[k].toNat : Int) == 92) = true := eqI c2
          have HE := Lib.hid (esc_self (.inr c2) : escB q s[k] = _)
          clear c1 c2
          go_wp2_with (at_builtin; refine wpList_append_lit rfl _ _ rfl rfl hown 2 rfl (by simp) [92, s[k]] rfl rfl (by omega) (by omega) ?_; intro v1 w1 hown1 hb1)
          go_roundw
          case rel => exact ⟨k + 1, by omega, by go_num, by rw [HT.out, HE.out]; exact hown1, hb.trans hb1⟩
          case measure => simp [intOf]; omega
        · have b2 : ((s[k].toNat : Int) == 92) = false := neI c2
          by_cases c3 : s[k] = 10
          · have b3 : ((s[k].toNat : Int) == 10) = true := eqI c3
            have HE := Lib.hid (esc_nl c1 c3)
            clear c1 c2 c3
            go_wp2_with (at_builtin; refine wpList_append_lit rfl _ _ rfl rfl hown 2 rfl (by simp) [92, 110] rfl rfl (by omega) (by omega) ?_; intro v1 w1 hown1 hb1)
            go_roundw
            case rel => exact ⟨k + 1, by omega, by go_num, by rw [HT.out, HE.out]; exact hown1, hb.trans hb1⟩
            case measure => simp [intOf]; omega
          · have b3 : ((s[k].toNat : Int) == 10) = false := neI c3
            by_cases c4 : s[k] = 9
            · have b4 : ((s[k].toNat : Int) == 9) = true := eqI c4
              have HE := Lib.hid (esc_tab c1 c4)
              clear c1 c2 c3 c4
              go_wp2_with (at_builtin; refine wpList_append_lit rfl _ _ rfl rfl hown 2 rfl (by simp) [92, 116] rfl rfl (by omega) (by omega) ?_; intro v1 w1 hown1 hb1)
              go_roundw
              case rel => exact ⟨k + 1, by omega, by go_num, by rw [HT.out, HE.out]; exact hown1, hb.trans hb1⟩
              case measure => simp [intOf]; omega
            · have b4 : ((s[k].toNat : Int) == 9) = false := neI c4
              by_cases c5 : s[k].toNat < 32 ∨ 126 < s[k].toNat
              · have HE := Lib.hid (esc_hex c1 c2 c3 c4 c5)
                clear c1 c2 c3 c4
                rcases c5 with c5 | c5
                all_goals
                  have x1 : 0 ≤ (s[k].toNat : Int) / 16 := by omega
                  have x2 : (s[k].toNat : Int) / 16 < 16 := by omega
                  have x3 : 0 ≤ (s[k].toNat : Int) % 16 := by omega
                  have x4 : (s[k].toNat : Int) % 16 < 16 := by omega
                  have HQ := Lib.hid (show ((s[k].toNat : Int) / 16).toNat = s[k].toNat / 16 from by omega)
                  have HM := Lib.hid (show ((s[k].toNat : Int) % 16).toNat = s[k].toNat % 16 from by omega)
                  have x5 := and15 s[k].toNat (by omega)
                  go_wp2
                  go_region_held3 (fun _ => True) (trivial) ((refine step_append_lit rfl _ _ (by rfl) (by rfl) hown 4 (by rfl) (by simp) [92, 120, hexD ((s[k].toNat : Int) / 16).toNat, hexD ((s[k].toNat : Int) % 16).toNat] rfl (hexCells _ _ (by omega) (by omega) _ _) (by omega) (by omega) ?_; intro v1 w1 hown1 hb1))
                  all_goals
                    go_wp2
                    go_roundw
                    case rel => exact ⟨k + 1, by omega, by go_num, by rw [HT.out, HE.out, ← HQ.out, ← HM.out]; exact hown1, hb.trans hb1⟩
                    case measure => simp [intOf]; omega
              · have HE := Lib.hid (esc_plain c1 c2 c3 c4 c5)
                clear c1 c2 c3 c4
                go_wp2_with (at_builtin; refine wpList_append_lit rfl _ _ rfl rfl hown 1 rfl (by simp) [s[k]] rfl rfl (by omega) (by omega) ?_; intro v1 w1 hown1 hb1)
                go_roundw
                case rel => exact ⟨k + 1, by omega, by go_num, by rw [HT.out, HE.out]; exact hown1, hb.trans hb1⟩
                case measure => simp [intOf]; omega

theorem hexLo {x : Int} (h0 : 0 ≤ x) (h : x < 10) : ((hexD x.toNat).toNat : Int) = 48 + x := by
  rw [hexD, if_pos (by omega)]; simp; omega
theorem hexHi {x : Int} (h0 : 10 ≤ x) (h : x < 16) : ((hexD x.toNat).toNat : Int) = 87 + x := by
  rw [hexD, if_neg (by omega)]; simp; omega
theorem ret_u8 {a b : Int} (h : a = b) : Ending.returned (.int .u8 a) = .returned (.int .u8 b) := by rw [h]
theorem specHex (x : Int) (h : 0 ≤ x ∧ x < 16) (w : World) : Calls Tryz.prog 97 #[.int .i64 x] w fun e w' => e = .returned (.int .u8 ((hexD x.toNat).toNat : Int)) ∧ w = w' := by
  by_cases hx : x < 10
  · have H := Lib.hid (hexLo h.1 hx)
    go_enter Tryz.func97, Tryz.ntmps97
    go_wp2
    go_ret
    exact ⟨ret_u8 (by rw [H.out]), rfl⟩
  · have H := Lib.hid (hexHi (by omega) h.2)
    go_enter Tryz.func97, Tryz.ntmps97
    go_wp2
    go_ret
    exact ⟨ret_u8 (by rw [H.out]), rfl⟩

set_option maxHeartbeats 4000000 in
set_option maxRecDepth 10000 in
theorem specQuote0 (s : ByteArray) (hs : s.size ≤ 1048576) (q : UInt8) (w : World) : Calls Tryz.prog 77 #[.string s, .int .u8 (q.toNat : Int)] w fun e w' => e = .returned (txt (quoteL q s.data.toList)) ∧ Below w.heap.size w w' := by
  have hq := byte_bd q
  go_enter Tryz.func77, Tryz.ntmps77
  go_wp2
  go_loopw [5, 6, 7] (fun v i _ wr => ∃ k : Nat, k ≤ s.size ∧ i = .int .i64 k ∧ Buf wr w.heap.size v (q :: escL q (s.data.toList.take k)) ∧ Below w.heap.size w wr)
    (fun _ i _ _ => s.size - (intOf i).toNat)
  case atStart => exact ⟨0, by omega, rfl, Buf.lit w w.heap.size [q] (Nat.le_refl _) (by simp [maxLen]), (Below.refl _ _).alloc (Nat.le_refl _) _⟩
  case round =>
    obtain ⟨k, hk, rfl, hown, hb⟩ := hrel
    have hsz := hb.size
    have hl := escL_len q (s.data.toList.take k)
    have hl2 : (s.data.toList.take k).length ≤ s.size := by simp; omega
    have hl3 : (q :: escL q (s.data.toList.take k)).length ≤ 4 * s.size + 1 := by simp only [List.length_cons]; omega
    clear hl hl2
    by_cases h0 : k = s.size
    · subst h0
      have e1 : s.data.toList.take s.size = s.data.toList := List.take_of_length_le (by simp)
      rw [e1] at hown hl3
      clear e1
      go_wp2_with (at_builtin; refine wpList_append_lit rfl _ _ rfl rfl hown 1 rfl (by simp) [q] rfl rfl (by omega) (by omega) ?_; intro v1 w1 hown1 hb1; have hcv := run_text hown1)
      go_ret
      exact ⟨by rw [← quote_done]; rfl, hb.trans hb1⟩
    · have hlt : k < s.size := by omega
      have HT := Lib.hid (takeQ s k hlt q)
      have hx := byte_bd s[k]
      by_cases c1 : s[k] = q
      · have b1 := eqI c1
        have HE := Lib.hid (esc_self (.inl c1) : escB q s[k] = _)
        clear c1
        go_wp2_with (at_builtin; refine wpList_append_lit rfl _ _ rfl rfl hown 2 rfl (by simp) [92, s[k]] rfl rfl (by omega) (by omega) ?_; intro v1 w1 hown1 hb1)
        go_roundw
        case rel => exact ⟨k + 1, by omega, by go_num, by rw [HT.out, HE.out]; exact hown1, hb.trans hb1⟩
        case measure => simp [intOf]; omega
      · have b1 := neI c1
        by_cases c2 : s[k] = 92
        · have b2 : ((s[k].toNat : Int) == 92) = true := eqI c2
          have HE := Lib.hid (esc_self (.inr c2) : escB q s[k] = _)
          clear c1 c2
          go_wp2_with (at_builtin; refine wpList_append_lit rfl _ _ rfl rfl hown 2 rfl (by simp) [92, s[k]] rfl rfl (by omega) (by omega) ?_; intro v1 w1 hown1 hb1)
          go_roundw
          case rel => exact ⟨k + 1, by omega, by go_num, by rw [HT.out, HE.out]; exact hown1, hb.trans hb1⟩
          case measure => simp [intOf]; omega
        · have b2 : ((s[k].toNat : Int) == 92) = false := neI c2
          by_cases c3 : s[k] = 10
          · have b3 : ((s[k].toNat : Int) == 10) = true := eqI c3
            have HE := Lib.hid (esc_nl c1 c3)
            clear c1 c2 c3
            go_wp2_with (at_builtin; refine wpList_append_lit rfl _ _ rfl rfl hown 2 rfl (by simp) [92, 110] rfl rfl (by omega) (by omega) ?_; intro v1 w1 hown1 hb1)
            go_roundw
            case rel => exact ⟨k + 1, by omega, by go_num, by rw [HT.out, HE.out]; exact hown1, hb.trans hb1⟩
            case measure => simp [intOf]; omega
          · have b3 : ((s[k].toNat : Int) == 10) = false := neI c3
            by_cases c4 : s[k] = 9
            · have b4 : ((s[k].toNat : Int) == 9) = true := eqI c4
              have HE := Lib.hid (esc_tab c1 c4)
              clear c1 c2 c3 c4
              go_wp2_with (at_builtin; refine wpList_append_lit rfl _ _ rfl rfl hown 2 rfl (by simp) [92, 116] rfl rfl (by omega) (by omega) ?_; intro v1 w1 hown1 hb1)
              go_roundw
              case rel => exact ⟨k + 1, by omega, by go_num, by rw [HT.out, HE.out]; exact hown1, hb.trans hb1⟩
              case measure => simp [intOf]; omega
            · have b4 : ((s[k].toNat : Int) == 9) = false := neI c4
              by_cases c5 : s[k].toNat < 32 ∨ 126 < s[k].toNat
              · have HE := Lib.hid (esc_hex c1 c2 c3 c4 c5)
                clear c1 c2 c3 c4
                rcases c5 with c5 | c5
                all_goals
                  have x1 : 0 ≤ (s[k].toNat : Int) / 16 := by omega
                  have x2 : (s[k].toNat : Int) / 16 < 16 := by omega
                  have x3 : 0 ≤ (s[k].toNat : Int) % 16 := by omega
                  have x4 : (s[k].toNat : Int) % 16 < 16 := by omega
                  have HQ := Lib.hid (show ((s[k].toNat : Int) / 16).toNat = s[k].toNat / 16 from by omega)
                  have HM := Lib.hid (show ((s[k].toNat : Int) % 16).toNat = s[k].toNat % 16 from by omega)
                  go_wp2_with (first
                    | (go_at_call 97; refine (specHex _ (by omega) _).mono ?_; rintro e w' ⟨rfl, rfl⟩)
                    | (at_builtin; refine wpList_append_lit rfl _ _ rfl rfl hown 4 rfl (by simp) [92, 120, hexD ((s[k].toNat : Int) / 16).toNat, hexD ((s[k].toNat : Int) % 16).toNat] rfl rfl (by omega) (by omega) ?_; intro v1 w1 hown1 hb1))
                  go_roundw
                  case rel => exact ⟨k + 1, by omega, by go_num, by rw [HT.out, HE.out, ← HQ.out, ← HM.out]; exact hown1, hb.trans hb1⟩
                  case measure => simp [intOf]; omega
              · have HE := Lib.hid (esc_plain c1 c2 c3 c4 c5)
                clear c1 c2 c3 c4
                go_wp2_with (at_builtin; refine wpList_append_lit rfl _ _ rfl rfl hown 1 rfl (by simp) [s[k]] rfl rfl (by omega) (by omega) ?_; intro v1 w1 hown1 hb1)
                go_roundw
                case rel => exact ⟨k + 1, by omega, by go_num, by rw [HT.out, HE.out]; exact hown1, hb.trans hb1⟩
                case measure => simp [intOf]; omega

theorem implQuoteText (s : ByteArray) (hs : s.size ≤ 1048576) (w : World) : Calls Tryz.prog 65 #[.string s] w fun e w' => e = .returned (txt (quoteL 34 s.data.toList)) ∧ Below w.heap.size w w' := by
  go_enter Tryz.func65, Tryz.ntmps65
  go_wp2_with (go_at_call 90; refine (implQuote0 s hs 34 _).mono ?_; rintro e w' ⟨rfl, hb⟩)
  go_ret
  exact ⟨rfl, hb⟩

theorem specQuoteText (s : ByteArray) (hs : s.size ≤ 1048576) (w : World) : Calls Tryz.prog 49 #[.string s] w fun e w' => e = .returned (txt (quoteL 34 s.data.toList)) ∧ Below w.heap.size w w' := by
  go_enter Tryz.func49, Tryz.ntmps49
  go_wp2_with (go_at_call 77; refine (specQuote0 s hs 34 _).mono ?_; rintro e w' ⟨rfl, hb⟩)
  go_ret
  exact ⟨rfl, hb⟩
end Go.Proofs.YtljblaglfooclaaGreatDoor

namespace Go.Proofs.YtljblaglfooclaaGreatDoor
open Go.RowKit

theorem csetTxt_small (a b : Int) : (⟨(csetL a b).toArray⟩ : ByteArray).size ≤ 1048576 := by
  have := csetPre_len a b 128
  show (csetPre a b 128).toArray.size ≤ _
  rw [List.size_toArray]; omega
theorem implQuoteCset (a b : Int) (w : World) : Calls Tryz.prog 67 #[cs a b] w fun e w' => e = .returned (txt (quoteL 39 (csetL a b))) ∧ Below w.heap.size w w' := by
  go_enter Tryz.func67, Tryz.ntmps67
  go_wp2_with (first
    | (go_at_call 92; refine (implCsetText a b _).mono ?_; rintro e w1 ⟨rfl, hb1⟩)
    | (go_at_call 90; refine (implQuote0 _ (csetTxt_small a b) 39 _).mono ?_; rintro e w2 ⟨rfl, hb2⟩))
  go_ret
  exact ⟨rfl, ((Below.refl w.heap.size w).alloc (Nat.le_refl _) _).trans ((hb1.mono (by simp)).trans (hb2.mono (by have := hb1.size; (try simp at this); omega)))⟩
theorem specQuoteCset (a b : Int) (w : World) : Calls Tryz.prog 51 #[cs a b] w fun e w' => e = .returned (txt (quoteL 39 (csetL a b))) ∧ Below w.heap.size w w' := by
  go_enter Tryz.func51, Tryz.ntmps51
  go_wp2_with (first
    | (go_at_call 79; refine (specCsetText a b _).mono ?_; rintro e w1 ⟨rfl, hb1⟩)
    | (go_at_call 77; refine (specQuote0 _ (csetTxt_small a b) 39 _).mono ?_; rintro e w2 ⟨rfl, hb2⟩))
  go_ret
  exact ⟨rfl, ((Below.refl w.heap.size w).alloc (Nat.le_refl _) _).trans ((hb1.mono (by simp)).trans (hb2.mono (by have := hb1.size; (try simp at this); omega)))⟩
end Go.Proofs.YtljblaglfooclaaGreatDoor
