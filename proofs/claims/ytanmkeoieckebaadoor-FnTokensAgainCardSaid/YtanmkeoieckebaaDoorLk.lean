/- Proved here: what the program's lexOne gives where the text begins with a letter. Condition: at most 6000 bytes; the listed table of white space lies in memory. Proved here: what the program's lexOne gives where the text begins with a digit. Condition: at most 6000 bytes; the listed table of powers of ten lies in memory. Proved here: what the program's lexOne gives where the text begins with a quote. Condition: at most 6000 bytes. Proved here: what the program's lexOne gives, wherever the text begins. Condition: at least one byte, at most 6000; the listed tables of white space and of powers of ten lie in memory. -/
import Derived.Test.YtanmkeoieckebaaDoorLxK
namespace Go.Proofs.YtanmkeoieckebaaDoor
open Go.RowKit

theorem lex_let {s : ByteArray} (h0 : 0 < s.size) (hb : letB s[0] = true) : lex1 KK s.data.toList = lexW KK (wordL s.data.toList) := by
  conv => lhs; rw [list_cons h0]
  unfold lex1
  simp only [hb, if_true]
  rw [← list_cons h0]
theorem word_ext (s : ByteArray) : s.extract 0 (endOf ldB s 0) = mkT (wordL s.data.toList) := by
  have := eo_ext ldB s 0
  rw [List.drop_zero] at this
  exact this
theorem word_len (s : ByteArray) : endOf ldB s 0 = (wordL s.data.toList).length := by
  unfold endOf wordL
  rw [List.drop_zero, Nat.zero_add]
theorem lexR_W (w : List UInt8) : lexR (lexW KK w) = if Lib.containsS zIsReserved (mkT w) = true then .tuple #[tkV 2 (mkT w) 0, .int .i64 (w.length : Int)] else if nameB (mkT w) = true then .tuple #[tkV 1 (mkT w) 0, .int .i64 (w.length : Int)] else .tuple #[tkV 0 ⟨#[]⟩ 0, .int .i64 0] := by
  unfold lexW
  show lexR (if Lib.containsS zIsReserved (mkT w) = true then some (2, w, w.length) else if nameB (mkT w) = true then some (1, w, w.length) else none) = _
  split
  · rfl
  · split <;> rfl
set_option maxRecDepth 20000 in
set_option maxHeartbeats 4000000 in
theorem lexOne_let (s : ByteArray) (h0 : 0 < s.size) (hs : s.size ≤ 6000) (hb : letB s[0] = true) (w : World) (hT : Lib.TabIs Tryd.prog w "strings.asciiSpace" .u8 Lib.asciiSpaceTab) :
    Calls Tryd.prog 58 #[.string s] w fun e w' => e = .returned (lexR (lex1 KK s.data.toList)) ∧ Below w.heap.size w w' := by
  have HE := Lib.hid (lex_let h0 hb)
  have hd := let_not_dig hb
  have h0E : 1 ≤ endOf ldB s 0 := by rw [eo_one h0 (ldB_let hb)]; exact eo_ge _ _ _
  have hES := eo_le (p := ldB) (s := s) (i := 0) (by omega)
  have HIn := Lib.hid (fun n (h : n < endOf ldB s 0) => eo_in (p := ldB) (s := s) (Nat.zero_le n) h)
  have HSt := Lib.hid (fun h => eo_stop (p := ldB) (s := s) (i := 0) h)
  have HX := Lib.hid (word_ext s)
  have HLn := Lib.hid (word_len s)
  have hb8 := byte_bd s[0]
  have hR0 : Blk (w.alloc (.cells #[.int .i64 0, .string ⟨#[]⟩, .int .i64 0] 61)) w.heap.size 61 #[.int .i64 0, .string ⟨#[]⟩, .int .i64 0] := Blk.new _ _ _
  have hx : s.size ≤ 1048576 := by omega
  obtain ⟨E, hE⟩ : ∃ E, E = endOf ldB s 0 := ⟨_, rfl⟩
  rw [← hE] at h0E hES
  have HEE := Lib.hid hE
  clear hE
  go_enter Tryd.func58, Tryd.ntmps58
  go_wp2_with (first
    | (go_at_call 94; refine (implLetter _ _).mono ?_; rintro e w' ⟨rfl, rfl⟩)
    | (go_at_call 92; refine (implDigit _ _).mono ?_; rintro e w' ⟨rfl, rfl⟩))
  go_loop [5] (fun i => ∃ n : Nat, i = .int .i64 n ∧ n ≤ E) (fun i => E - (intOf i).toNat)
  case atStart => exact ⟨0, rfl, by omega⟩
  case round =>
    obtain ⟨n, rfl, hn⟩ := hrel
    by_cases hlt : n < E
    · obtain ⟨hns, hp⟩ := HIn.out n (by rw [← HEE.out]; exact hlt)
      have i0 : (n : Int) < (s.size : Int) := by omega
      have hn8 := byte_bd s[n]
      by_cases hl : letB s[n] = true
      · clear hp
        go_wp2_with (first
          | (go_at_call 94; refine (implLetter _ _).mono ?_; rintro e w' ⟨rfl, rfl⟩))
        go_round
        case rel => exact ⟨n + 1, by go_num, by omega⟩
        case measure => simp [intOf]; omega
      · have hl' : letB s[n] = false := by simpa using hl
        have hd' : digB s[n] = true := by unfold ldB at hp; simpa [hl'] using hp
        clear hp hl
        go_wp2_with (first
          | (go_at_call 94; refine (implLetter _ _).mono ?_; rintro e w' ⟨rfl, rfl⟩)
          | (go_at_call 92; refine (implDigit _ _).mono ?_; rintro e w' ⟨rfl, rfl⟩))
        go_round
        case rel => exact ⟨n + 1, by go_num, by omega⟩
        case measure => simp [intOf]; omega
    · obtain rfl : n = E := by omega
      obtain ⟨X, hX⟩ : ∃ X, X = s.extract 0 n := ⟨_, rfl⟩
      have hXs : X.size ≤ 1048576 := by rw [hX, ByteArray.size_extract]; omega
      have HV := Lib.hid (show lexR (lex1 KK s.data.toList) = if Lib.containsS zIsReserved X = true then .tuple #[tkV 2 X 0, .int .i64 (n : Int)] else if nameB X = true then .tuple #[tkV 1 X 0, .int .i64 (n : Int)] else .tuple #[tkV 0 ⟨#[]⟩ 0, .int .i64 0] by
        rw [HE.out, lexR_W, hX, HEE.out, HX.out, HLn.out])
      have hRes := fun (W : World) (hW : Below w.heap.size w W) => implIsReserved X W (tab_kept hT hW)
      have hNam := fun (W : World) (hW : Below w.heap.size w W) => implName X hXs W (tab_kept hT hW)
      obtain ⟨r1, hr1⟩ : ∃ r, r = Lib.containsS zIsReserved X := ⟨_, rfl⟩
      obtain ⟨r2, hr2⟩ : ∃ r, r = nameB X := ⟨_, rfl⟩
      rw [← hr1, ← hr2] at HV
      rw [← hr1] at hRes
      rw [← hr2] at hNam
      have hcase : ¬ n < s.size ∨ ∃ h : n < s.size, letB s[n] = false ∧ digB s[n] = false := by
        rcases Nat.lt_or_ge n s.size with h | h
        · have h2 : endOf ldB s 0 < s.size := by rw [← HEE.out]; exact h
          have h3 := HSt.out h2
          simp only [← HEE.out] at h3
          exact .inr ⟨h, ldB_not h3⟩
        · exact .inl (by omega)
      have hXX : s.extract 0 n = X := hX.symm
      clear hX hr1 hr2 hlt hn
      rcases hcase with h1 | ⟨h1, h2, h3⟩
      all_goals
        cases r1 with
        | true =>
          have HF := Lib.hid (show lexR (lex1 KK s.data.toList) = .tuple #[tkV 2 X 0, .int .i64 (n : Int)] by rw [HV.out]; rfl)
          clear HV
          go_wp2_with (first
            | (go_at_call 94; refine (implLetter _ _).mono ?_; rintro e w' ⟨rfl, rfl⟩)
            | (go_at_call 92; refine (implDigit _ _).mono ?_; rintro e w' ⟨rfl, rfl⟩)
            | (go_at_call 93; refine (hRes _ (by repeat (first | exact Below.refl _ _ | refine Below.drew ?_ | refine Below.setCell ?_ (by (try simp); try omega) _ | refine Below.alloc ?_ (by (try simp); try omega) _))).mono ?_; rintro e w1 ⟨rfl, hb1⟩; have hR1 := hR0.kept hb1; have hbb : Below w.heap.size w w1 := Below.trans (by repeat (first | exact Below.refl _ _ | refine Below.drew ?_ | refine Below.setCell ?_ (by (try simp); try omega) _ | refine Below.alloc ?_ (by (try simp); try omega) _)) (hb1.mono (by simp)); have c0 := hR1.cell 0; have c1 := hR1.cell 1; have c2 := hR1.cell 2; have f0 := hR1.frozen 0; have f1 := hR1.frozen 1; have f2 := hR1.frozen 2; have hRl := hR1.lt; simp at c0 c1 c2)
            | (go_at_call 51; refine (hNam _ hbb).mono ?_; rintro e w2 ⟨rfl, hb2⟩; have hR2 := hR1.kept hb2; have hbb := hbb.trans (hb2.mono hbb.size); have c0 := hR2.cell 0; have c1 := hR2.cell 1; have c2 := hR2.cell 2; have f0 := hR2.frozen 0; have f1 := hR2.frozen 1; have f2 := hR2.frozen 2; have hRl := hR2.lt; simp at c0 c1 c2))
          refine bodyPost_ret (v := .tuple #[tkV 2 X 0, .int .i64 (n : Int)]) (by simp [results, Tryd.results58, go_sem, c0, c1, c2, tkV]) rfl ⟨ret_v HF.out.symm, ?_⟩
          repeat (first | exact hbb | refine Below.drew ?_ | refine Below.setCell ?_ (by (try simp); try omega) _ | refine Below.alloc ?_ (by (try simp); try omega) _)
        | false =>
          cases r2 with
          | true =>
            have HF := Lib.hid (show lexR (lex1 KK s.data.toList) = .tuple #[tkV 1 X 0, .int .i64 (n : Int)] by rw [HV.out]; rfl)
            clear HV
            go_wp2_with (first
              | (go_at_call 94; refine (implLetter _ _).mono ?_; rintro e w' ⟨rfl, rfl⟩)
              | (go_at_call 92; refine (implDigit _ _).mono ?_; rintro e w' ⟨rfl, rfl⟩)
              | (go_at_call 93; refine (hRes _ (by repeat (first | exact Below.refl _ _ | refine Below.drew ?_ | refine Below.setCell ?_ (by (try simp); try omega) _ | refine Below.alloc ?_ (by (try simp); try omega) _))).mono ?_; rintro e w1 ⟨rfl, hb1⟩; have hR1 := hR0.kept hb1; have hbb : Below w.heap.size w w1 := Below.trans (by repeat (first | exact Below.refl _ _ | refine Below.drew ?_ | refine Below.setCell ?_ (by (try simp); try omega) _ | refine Below.alloc ?_ (by (try simp); try omega) _)) (hb1.mono (by simp)); have c0 := hR1.cell 0; have c1 := hR1.cell 1; have c2 := hR1.cell 2; have f0 := hR1.frozen 0; have f1 := hR1.frozen 1; have f2 := hR1.frozen 2; have hRl := hR1.lt; simp at c0 c1 c2)
              | (go_at_call 51; refine (hNam _ hbb).mono ?_; rintro e w2 ⟨rfl, hb2⟩; have hR2 := hR1.kept hb2; have hbb := hbb.trans (hb2.mono hbb.size); have c0 := hR2.cell 0; have c1 := hR2.cell 1; have c2 := hR2.cell 2; have f0 := hR2.frozen 0; have f1 := hR2.frozen 1; have f2 := hR2.frozen 2; have hRl := hR2.lt; simp at c0 c1 c2))
            refine bodyPost_ret (v := .tuple #[tkV 1 X 0, .int .i64 (n : Int)]) (by simp [results, Tryd.results58, go_sem, c0, c1, c2, tkV]) rfl ⟨ret_v HF.out.symm, ?_⟩
            repeat (first | exact hbb | refine Below.drew ?_ | refine Below.setCell ?_ (by (try simp); try omega) _ | refine Below.alloc ?_ (by (try simp); try omega) _)
          | false =>
            have HF := Lib.hid (show lexR (lex1 KK s.data.toList) = .tuple #[tkV 0 ⟨#[]⟩ 0, .int .i64 0] by rw [HV.out]; rfl)
            clear HV
            go_wp2_with (first
              | (go_at_call 94; refine (implLetter _ _).mono ?_; rintro e w' ⟨rfl, rfl⟩)
              | (go_at_call 92; refine (implDigit _ _).mono ?_; rintro e w' ⟨rfl, rfl⟩)
              | (go_at_call 93; refine (hRes _ (by repeat (first | exact Below.refl _ _ | refine Below.drew ?_ | refine Below.setCell ?_ (by (try simp); try omega) _ | refine Below.alloc ?_ (by (try simp); try omega) _))).mono ?_; rintro e w1 ⟨rfl, hb1⟩; have hR1 := hR0.kept hb1; have hbb : Below w.heap.size w w1 := Below.trans (by repeat (first | exact Below.refl _ _ | refine Below.drew ?_ | refine Below.setCell ?_ (by (try simp); try omega) _ | refine Below.alloc ?_ (by (try simp); try omega) _)) (hb1.mono (by simp)); have c0 := hR1.cell 0; have c1 := hR1.cell 1; have c2 := hR1.cell 2; have f0 := hR1.frozen 0; have f1 := hR1.frozen 1; have f2 := hR1.frozen 2; have hRl := hR1.lt; simp at c0 c1 c2)
              | (go_at_call 51; refine (hNam _ hbb).mono ?_; rintro e w2 ⟨rfl, hb2⟩; have hR2 := hR1.kept hb2; have hbb := hbb.trans (hb2.mono hbb.size); have c0 := hR2.cell 0; have c1 := hR2.cell 1; have c2 := hR2.cell 2; have f0 := hR2.frozen 0; have f1 := hR2.frozen 1; have f2 := hR2.frozen 2; have hRl := hR2.lt; simp at c0 c1 c2))
            refine bodyPost_ret (v := .tuple #[tkV 0 ⟨#[]⟩ 0, .int .i64 0]) (by simp [results, Tryd.results58, go_sem, c0, c1, c2, tkV]) rfl ⟨ret_v HF.out.symm, ?_⟩
            repeat (first | exact hbb | refine Below.drew ?_ | refine Below.setCell ?_ (by (try simp); try omega) _ | refine Below.alloc ?_ (by (try simp); try omega) _)
end Go.Proofs.YtanmkeoieckebaaDoor

namespace Go.Proofs.YtanmkeoieckebaaDoor
open Go.RowKit

theorem lex1_cons (b : UInt8) (r : List UInt8) : lex1 KK (b :: r) = if letB b then lexW KK (wordL (b :: r)) else if digB b then lexI (wordL (b :: r)) else if b = 34 then (endN 34 r).bind (lexS (b :: r)) else if b = 39 then (endN 39 r).bind (lexC KK (b :: r)) else if b = 38 ∧ (r.head?.any letB) = true then lexK KK (r.takeWhile letB) else lexO KK (b :: r) := rfl
theorem lex_dig {s : ByteArray} (h0 : 0 < s.size) (hl : letB s[0] = false) (hb : digB s[0] = true) : lex1 KK s.data.toList = lexI (wordL s.data.toList) := by
  conv => lhs; rw [list_cons h0]
  unfold lex1
  simp only [hl, hb, if_true, Bool.false_eq_true, if_false]
  rw [← list_cons h0]
theorem lexR_I (w : List UInt8) : lexR (lexI w) = if (ioOf w).2 = true then .tuple #[tkV 3 (mkT (Lib.itoa (ioOf w).1)) 0, .int .i64 (w.length : Int)] else .tuple #[tkV 0 ⟨#[]⟩ 0, .int .i64 0] := by
  unfold lexI
  split <;> rfl
theorem mkT_size (l : List UInt8) : (mkT l).size = l.length := by show l.toArray.size = _; simp
theorem mkT_list (l : List UInt8) : (mkT l).data.toList = l := by simp [mkT]
theorem io_bd (w : List UInt8) : (ioOf w).2 = true → (∃ b r, w = b :: r ∧ digB b = true) → 0 ≤ (ioOf w).1 ∧ (ioOf w).1 ≤ 999999999999 := by
  rintro h ⟨b, r, rfl, hd⟩
  obtain ⟨v, h1, h2⟩ := io_good hd h
  rw [h2]; omega
theorem word_dig {s : ByteArray} (h0 : 0 < s.size) (hb : digB s[0] = true) : ∃ b r, wordL s.data.toList = b :: r ∧ digB b = true := by
  rw [list_cons h0]
  refine ⟨s[0], (s.data.toList.drop 1).takeWhile ldB, ?_, hb⟩
  unfold wordL
  rw [List.takeWhile_cons, if_pos (ldB_dig hb)]
set_option maxRecDepth 20000 in
set_option maxHeartbeats 4000000 in
theorem lexOne_dig (s : ByteArray) (h0 : 0 < s.size) (hs : s.size ≤ 6000) (hl : letB s[0] = false) (hb : digB s[0] = true) (w : World) (hT : Lib.TabIs Tryd.prog w "internal/strconv.uint64pow10" .u64 Lib.pow10Tab) :
    Calls Tryd.prog 58 #[.string s] w fun e w' => e = .returned (lexR (lex1 KK s.data.toList)) ∧ Below w.heap.size w w' := by
  have HE := Lib.hid (lex_dig h0 hl hb)
  have HW := Lib.hid (word_dig h0 hb)
  have h0E : 1 ≤ endOf ldB s 0 := by rw [eo_one h0 (ldB_dig hb)]; exact eo_ge _ _ _
  have hES := eo_le (p := ldB) (s := s) (i := 0) (by omega)
  have HIn := Lib.hid (fun n (h : n < endOf ldB s 0) => eo_in (p := ldB) (s := s) (Nat.zero_le n) h)
  have HSt := Lib.hid (fun h => eo_stop (p := ldB) (s := s) (i := 0) h)
  have HX := Lib.hid (word_ext s)
  have HLn := Lib.hid (word_len s)
  have hb8 := byte_bd s[0]
  have hR0 : Blk (w.alloc (.cells #[.int .i64 0, .string ⟨#[]⟩, .int .i64 0] 61)) w.heap.size 61 #[.int .i64 0, .string ⟨#[]⟩, .int .i64 0] := Blk.new _ _ _
  obtain ⟨E, hE⟩ : ∃ E, E = endOf ldB s 0 := ⟨_, rfl⟩
  rw [← hE] at h0E hES
  have HEE := Lib.hid hE
  clear hE
  go_enter Tryd.func58, Tryd.ntmps58
  go_wp2_with (first
    | (go_at_call 94; refine (implLetter _ _).mono ?_; rintro e w' ⟨rfl, rfl⟩)
    | (go_at_call 92; refine (implDigit _ _).mono ?_; rintro e w' ⟨rfl, rfl⟩))
  go_loop [5] (fun i => ∃ n : Nat, i = .int .i64 n ∧ n ≤ E) (fun i => E - (intOf i).toNat)
  case atStart => exact ⟨0, rfl, by omega⟩
  case round =>
    obtain ⟨n, rfl, hn⟩ := hrel
    by_cases hlt : n < E
    · obtain ⟨hns, hp⟩ := HIn.out n (by rw [← HEE.out]; exact hlt)
      have i0 : (n : Int) < (s.size : Int) := by omega
      have hn8 := byte_bd s[n]
      by_cases hl2 : letB s[n] = true
      · clear hp
        go_wp2_with (first
          | (go_at_call 94; refine (implLetter _ _).mono ?_; rintro e w' ⟨rfl, rfl⟩))
        go_round
        case rel => exact ⟨n + 1, by go_num, by omega⟩
        case measure => simp [intOf]; omega
      · have hl' : letB s[n] = false := by simpa using hl2
        have hd' : digB s[n] = true := by unfold ldB at hp; simpa [hl'] using hp
        clear hp hl2
        go_wp2_with (first
          | (go_at_call 94; refine (implLetter _ _).mono ?_; rintro e w' ⟨rfl, rfl⟩)
          | (go_at_call 92; refine (implDigit _ _).mono ?_; rintro e w' ⟨rfl, rfl⟩))
        go_round
        case rel => exact ⟨n + 1, by go_num, by omega⟩
        case measure => simp [intOf]; omega
    · obtain rfl : n = E := by omega
      obtain ⟨X, hX⟩ : ∃ X, X = s.extract 0 n := ⟨_, rfl⟩
      have hXs : X.size ≤ 1048576 := by rw [hX, ByteArray.size_extract]; omega
      have hXl : X.data.toList = wordL s.data.toList := by rw [hX, HEE.out, HX.out, mkT_list]
      have hio := implIntegerOf X hXs
      rw [hXl] at hio
      obtain ⟨z, hz⟩ : ∃ z, z = (ioOf (wordL s.data.toList)).1 := ⟨_, rfl⟩
      obtain ⟨q, hq⟩ : ∃ q, q = (ioOf (wordL s.data.toList)).2 := ⟨_, rfl⟩
      rw [← hz, ← hq] at hio
      have HV := Lib.hid (show lexR (lex1 KK s.data.toList) = if q = true then .tuple #[tkV 3 (mkT (Lib.itoa z)) 0, .int .i64 (n : Int)] else .tuple #[tkV 0 ⟨#[]⟩ 0, .int .i64 0] by
        rw [HE.out, lexR_I, hz, hq, HEE.out, HLn.out])
      have HB := Lib.hid (show q = true → 0 ≤ z ∧ z ≤ 999999999999 by rw [hz, hq]; exact fun h => io_bd _ h HW.out)
      have hcase : ¬ n < s.size ∨ ∃ h : n < s.size, letB s[n] = false ∧ digB s[n] = false := by
        rcases Nat.lt_or_ge n s.size with h | h
        · have h2 : endOf ldB s 0 < s.size := by rw [← HEE.out]; exact h
          have h3 := HSt.out h2
          simp only [← HEE.out] at h3
          exact .inr ⟨h, ldB_not h3⟩
        · exact .inl (by omega)
      have hXX : s.extract 0 n = X := hX.symm
      clear hX hz hq hXl hlt hn hXs
      cases q with
      | true =>
        have HF := Lib.hid (show lexR (lex1 KK s.data.toList) = .tuple #[tkV 3 (mkT (Lib.itoa z)) 0, .int .i64 (n : Int)] by rw [HV.out]; rfl)
        obtain ⟨z0, z1⟩ := HB.out rfl
        have hFm : ∀ W : World, Below w.heap.size w W → Calls Tryd.prog 107 #[.int .i64 z] W fun e w' => e = .returned (.string (mkT (Lib.itoa z))) ∧ Below W.heap.size W w' := fun W hW => implFmt z ⟨by omega, by omega⟩ W (tab_kept hT hW)
        generalize mkT (Lib.itoa z) = T at hFm HF
        clear HV HB
        rcases hcase with h1 | ⟨h1, h2, h3⟩
        all_goals
          go_wp2_with (first
            | (go_at_call 94; refine (implLetter _ _).mono ?_; rintro e w' ⟨rfl, rfl⟩)
            | (go_at_call 92; refine (implDigit _ _).mono ?_; rintro e w' ⟨rfl, rfl⟩)
            | (go_at_call 106; refine (hio _).mono ?_; rintro e w' ⟨rfl, rfl⟩)
            | (go_at_call 107; refine (hFm _ (by repeat (first | exact Below.refl _ _ | refine Below.drew ?_ | refine Below.setCell ?_ (by (try simp); try omega) _ | refine Below.alloc ?_ (by (try simp); try omega) _))).mono ?_; rintro e w1 ⟨rfl, hb1⟩; have hR1 := hR0.kept hb1; have hbb : Below w.heap.size w w1 := Below.trans (by repeat (first | exact Below.refl _ _ | refine Below.drew ?_ | refine Below.setCell ?_ (by (try simp); try omega) _ | refine Below.alloc ?_ (by (try simp); try omega) _)) (hb1.mono (by simp)); have c0 := hR1.cell 0; have c1 := hR1.cell 1; have c2 := hR1.cell 2; have f0 := hR1.frozen 0; have f1 := hR1.frozen 1; have f2 := hR1.frozen 2; have hRl := hR1.lt; simp at c0 c1 c2))
          refine bodyPost_ret (v := .tuple #[tkV 3 T 0, .int .i64 (n : Int)]) (by simp [results, Tryd.results58, go_sem, c0, c1, c2, tkV]) rfl ⟨ret_v HF.out.symm, ?_⟩
          repeat (first | exact hbb | refine Below.drew ?_ | refine Below.setCell ?_ (by (try simp); try omega) _ | refine Below.alloc ?_ (by (try simp); try omega) _)
      | false =>
        have HF := Lib.hid (show lexR (lex1 KK s.data.toList) = .tuple #[tkV 0 ⟨#[]⟩ 0, .int .i64 0] by rw [HV.out]; rfl)
        clear HV HB
        rcases hcase with h1 | ⟨h1, h2, h3⟩
        all_goals
          go_wp2_with (first
            | (go_at_call 94; refine (implLetter _ _).mono ?_; rintro e w' ⟨rfl, rfl⟩)
            | (go_at_call 92; refine (implDigit _ _).mono ?_; rintro e w' ⟨rfl, rfl⟩)
            | (go_at_call 106; refine (hio _).mono ?_; rintro e w' ⟨rfl, rfl⟩))
          refine bodyPost_ret (v := .tuple #[tkV 0 ⟨#[]⟩ 0, .int .i64 0]) (by simp [results, Tryd.results58, go_sem, tkV]) rfl ⟨ret_v HF.out.symm, ?_⟩
          repeat (first | exact Below.refl _ _ | refine Below.drew ?_ | refine Below.setCell ?_ (by (try simp); try omega) _ | refine Below.alloc ?_ (by (try simp); try omega) _)
end Go.Proofs.YtanmkeoieckebaaDoor

namespace Go.Proofs.YtanmkeoieckebaaDoor
open Go.RowKit

theorem lex_quo {s : ByteArray} (h0 : 0 < s.size) (hq : s[0] = 34) : lex1 KK s.data.toList = (scanN 34 (s.data.toList.drop 1)).bind (lexS s.data.toList) := by
  have hl : s.data.toList = 34 :: s.data.toList.drop 1 := by rw [← hq]; exact list_cons h0
  generalize hr : s.data.toList.drop 1 = r at hl ⊢
  rw [hl, lex1_cons, if_neg (by decide), if_neg (by decide), if_pos rfl]
  cases he : endN 34 r with
  | some j => rw [scan_of_end _ r (Nat.le_refl _) j he]
  | none =>
    cases hs : scanN 34 r with
    | none => rfl
    | some j =>
      show none = lexS (34 :: r) j
      unfold lexS
      rw [unq_of_scan (.inl rfl) hs he]; rfl
theorem lex_quc {s : ByteArray} (h0 : 0 < s.size) (hq : s[0] = 39) : lex1 KK s.data.toList = (scanN 39 (s.data.toList.drop 1)).bind (lexC KK s.data.toList) := by
  have hl : s.data.toList = 39 :: s.data.toList.drop 1 := by rw [← hq]; exact list_cons h0
  generalize hr : s.data.toList.drop 1 = r at hl ⊢
  rw [hl, lex1_cons, if_neg (by decide), if_neg (by decide), if_neg (by decide), if_pos rfl]
  cases he : endN 39 r with
  | some j => rw [scan_of_end _ r (Nat.le_refl _) j he]
  | none =>
    cases hs : scanN 39 r with
    | none => rfl
    | some j =>
      show none = lexC KK (39 :: r) j
      unfold lexC
      rw [unq_of_scan (.inr rfl) hs he]; rfl
theorem S_nil {q : UInt8} {s : ByteArray} {k : Nat} (h : s.size ≤ k) : scanN q (s.data.toList.drop k) = none := by
  rw [List.drop_eq_nil_of_le (by simpa using h), scanN_nil]
theorem S_at {q : UInt8} {s : ByteArray} {k : Nat} (h : k < s.size) : scanN q (s.data.toList.drop k) = if s[k] = q then some 1 else if s[k] = 92 then (scanN q (s.data.toList.drop (k + 2))).map (· + 2) else (scanN q (s.data.toList.drop (k + 1))).map (· + 1) := by
  conv => lhs; rw [List.drop_eq_getElem_cons (show k < s.data.toList.length from h)]
  rw [scanN, List.drop_drop]; rfl
theorem lexR_S {l : List UInt8} {j : Nat} : lexR (lexS l j) = if (unqL 34 (l.take (j + 1))).isSome = true ∧ ((unqL 34 (l.take (j + 1))).getD []).length ≤ 120 then .tuple #[tkV 4 (mkT ((unqL 34 (l.take (j + 1))).getD [])) 0, .int .i64 ((j + 1 : Nat) : Int)] else .tuple #[tkV 0 ⟨#[]⟩ 0, .int .i64 0] := by
  unfold lexS
  cases unqL 34 (l.take (j + 1)) with
  | none => rfl
  | some t =>
    show lexR (if t.length ≤ 120 then some (4, t, j + 1) else none) = _
    by_cases h : t.length ≤ 120
    · rw [if_pos h, if_pos ⟨rfl, h⟩]; rfl
    · rw [if_neg h, if_neg (fun h2 => h h2.2)]; rfl
theorem lexR_C {l : List UInt8} {j : Nat} : lexR (lexC KK l j) = if (ucC (unqL 39 (l.take (j + 1)))).2 = true then .tuple #[tkV 5 (mkT (csetL (ucC (unqL 39 (l.take (j + 1)))).1.1 (ucC (unqL 39 (l.take (j + 1)))).1.2)) 0, .int .i64 ((j + 1 : Nat) : Int)] else .tuple #[tkV 0 ⟨#[]⟩ 0, .int .i64 0] := by
  unfold lexC
  cases unqL 39 (l.take (j + 1)) with
  | none => rfl
  | some t =>
    show lexR (Option.map _ (if (newC t).2 then some (csetL (newC t).1.1 (newC t).1.2) else none)) = if (newC t).2 = true then _ else _
    split <;> rfl
theorem ext_take (s : ByteArray) (n : Nat) : (s.extract 0 n).data.toList = s.data.toList.take n := by simp
theorem eqN {x y c : UInt8} (hc : y = c) (h : x = c) : ((x.toNat : Int) != (y.toNat : Int)) = false := by rw [bne, hc, u8T h]; rfl
theorem eqM {x y c : UInt8} (hc : y = c) (h : ¬ x = c) : ((x.toNat : Int) != (y.toNat : Int)) = true := by rw [bne, hc, u8F h]; rfl
set_option maxRecDepth 20000 in
set_option maxHeartbeats 8000000 in
theorem lexOne_quo (s : ByteArray) (h0 : 0 < s.size) (hs : s.size ≤ 6000) (hq : s[0] = 34) (w : World) :
    Calls Tryd.prog 58 #[.string s] w fun e w' => e = .returned (lexR (lex1 KK s.data.toList)) ∧ Below w.heap.size w w' := by
  have HE := Lib.hid (lex_quo h0 hq)
  have hl : letB s[0] = false := by rw [hq]; decide
  have hd : digB s[0] = false := by rw [hq]; decide
  have hb8 := byte_bd s[0]
  have b34 : ((s[0].toNat : Int) == 34) = true := by rw [hq]; rfl
  have HQ := Lib.hid hq
  have hR0 : Blk (w.alloc (.cells #[.int .i64 0, .string ⟨#[]⟩, .int .i64 0] 61)) w.heap.size 61 #[.int .i64 0, .string ⟨#[]⟩, .int .i64 0] := Blk.new _ _ _
  clear hq
  go_enter Tryd.func58, Tryd.ntmps58
  go_wp2_with (first
    | (go_at_call 94; refine (implLetter _ _).mono ?_; rintro e w' ⟨rfl, rfl⟩)
    | (go_at_call 92; refine (implDigit _ _).mono ?_; rintro e w' ⟨rfl, rfl⟩))
  go_loop [5] (fun i => ∃ k d : Nat, i = .int .i64 k ∧ Hid (scanN 34 (s.data.toList.drop 1) = (scanN 34 (s.data.toList.drop k)).map (· + d)) ∧ k = 1 + d ∧ k ≤ s.size + 1) (fun i => s.size + 1 - (intOf i).toNat)
  case atStart => exact ⟨1, 0, rfl, Lib.hid (by simp), rfl, by omega⟩
  case round =>
    obtain ⟨k, d, rfl, HR, hkd, hk⟩ := hrel
    by_cases hkz : s.size ≤ k
    · have HF := Lib.hid (show lexR (lex1 KK s.data.toList) = .tuple #[tkV 0 ⟨#[]⟩ 0, .int .i64 0] by rw [HE.out, HR.out, S_nil hkz]; rfl)
      clear HR hkd
      go_wp2_with fail
      refine bodyPost_ret (v := .tuple #[tkV 0 ⟨#[]⟩ 0, .int .i64 0]) (by simp [results, Tryd.results58, go_sem, tkV]) rfl ⟨ret_v HF.out.symm, ?_⟩
      repeat (first | exact Below.refl _ _ | refine Below.drew ?_ | refine Below.setCell ?_ (by (try simp); try omega) _ | refine Below.alloc ?_ (by (try simp); try omega) _)
    · have hlt : k < s.size := by omega
      have ik : (k : Int) < (s.size : Int) := by omega
      have HA := Lib.hid (S_at (q := 34) hlt)
      have hkb := byte_bd s[k]
      by_cases e0 : s[k] = 34
      · have g0 : ((s[k].toNat : Int) != (s[0].toNat : Int)) = false := eqN HQ.out e0
        have HJ := Lib.hid (show scanN 34 (s.data.toList.drop 1) = some (1 + d) by rw [HR.out, HA.out, if_pos e0]; rfl)
        obtain ⟨k1, hk1⟩ : ∃ x, x = k + 1 := ⟨_, rfl⟩
        have i1 : (k : Int) + 1 = (k1 : Int) := by omega
        have hk1s : k1 ≤ s.size := by omega
        obtain ⟨X, hX⟩ : ∃ X, X = s.extract 0 k1 := ⟨_, rfl⟩
        have hXs : X.size ≤ 1048576 := by rw [hX, ByteArray.size_extract]; omega
        have hXl : X.data.toList = s.data.toList.take (1 + d + 1) := by rw [hX, ext_take, hk1, hkd]
        have hXX : s.extract 0 k1 = X := hX.symm
        have HV := Lib.hid (show lexR (lex1 KK s.data.toList) = lexR (lexS s.data.toList (1 + d)) by rw [HE.out, HJ.out]; rfl)
        obtain ⟨o, ho⟩ : ∃ o, o = unqL 34 (s.data.toList.take (1 + d + 1)) := ⟨_, rfl⟩
        have HW := Lib.hid (show lexR (lex1 KK s.data.toList) = if o.isSome = true ∧ (o.getD []).length ≤ 120 then .tuple #[tkV 4 (mkT (o.getD [])) 0, .int .i64 (k1 : Int)] else .tuple #[tkV 0 ⟨#[]⟩ 0, .int .i64 0] by
          rw [HV.out, lexR_S, ho, hk1, hkd])
        have hU : ∀ W : World, Calls Tryd.prog 108 #[.string X] W fun e w' => e = .returned (.tuple #[.string (mkT (o.getD [])), .bool o.isSome]) ∧ Below W.heap.size W w' := fun W => by
          have := implUnquoteText X hXs W
          rw [hXl, ← ho] at this
          exact this
        obtain ⟨T, hT⟩ : ∃ T, T = mkT (o.getD []) := ⟨_, rfl⟩
        have HTl := Lib.hid (show T.size = (o.getD []).length by rw [hT]; exact mkT_size _)
        rw [← hT] at hU HW
        obtain ⟨m, hm⟩ : ∃ m, m = o.isSome := ⟨_, rfl⟩
        rw [← hm] at hU HW
        rw [← HTl.out] at HW
        clear HR HA hkd e0 HV hX hXl ho hT hm hk1 HTl HE HJ
        cases m with
        | false =>
          have HF := Lib.hid (show lexR (lex1 KK s.data.toList) = .tuple #[tkV 0 ⟨#[]⟩ 0, .int .i64 0] by rw [HW.out]; simp)
          clear HW
          go_wp2_with (first | (go_at_call 108; refine (hU _).mono ?_; rintro e w1 ⟨rfl, hb1⟩; have hR1 := hR0.kept hb1; have hbb : Below w.heap.size w w1 := Below.trans (by repeat (first | exact Below.refl _ _ | refine Below.drew ?_ | refine Below.setCell ?_ (by (try simp); try omega) _ | refine Below.alloc ?_ (by (try simp); try omega) _)) (hb1.mono (by simp)); have c0 := hR1.cell 0; have c1 := hR1.cell 1; have c2 := hR1.cell 2; have f0 := hR1.frozen 0; have f1 := hR1.frozen 1; have f2 := hR1.frozen 2; have hRl := hR1.lt; simp at c0 c1 c2))
          refine bodyPost_ret (v := .tuple #[tkV 0 ⟨#[]⟩ 0, .int .i64 0]) (by simp [results, Tryd.results58, go_sem, c0, c1, c2, tkV]) rfl ⟨ret_v HF.out.symm, ?_⟩
          repeat (first | exact hbb | refine Below.drew ?_ | refine Below.setCell ?_ (by (try simp); try omega) _ | refine Below.alloc ?_ (by (try simp); try omega) _)
        | true =>
          by_cases hl120 : T.size ≤ 120
          · have HF := Lib.hid (show lexR (lex1 KK s.data.toList) = .tuple #[tkV 4 T 0, .int .i64 (k1 : Int)] by rw [HW.out, if_pos ⟨rfl, hl120⟩])
            clear HW
            go_wp2_with (first | (go_at_call 108; refine (hU _).mono ?_; rintro e w1 ⟨rfl, hb1⟩; have hR1 := hR0.kept hb1; have hbb : Below w.heap.size w w1 := Below.trans (by repeat (first | exact Below.refl _ _ | refine Below.drew ?_ | refine Below.setCell ?_ (by (try simp); try omega) _ | refine Below.alloc ?_ (by (try simp); try omega) _)) (hb1.mono (by simp)); have c0 := hR1.cell 0; have c1 := hR1.cell 1; have c2 := hR1.cell 2; have f0 := hR1.frozen 0; have f1 := hR1.frozen 1; have f2 := hR1.frozen 2; have hRl := hR1.lt; simp at c0 c1 c2))
            refine bodyPost_ret (v := .tuple #[tkV 4 T 0, .int .i64 (k1 : Int)]) (by simp [results, Tryd.results58, go_sem, c0, c1, c2, tkV]) rfl ⟨ret_v HF.out.symm, ?_⟩
            repeat (first | exact hbb | refine Below.drew ?_ | refine Below.setCell ?_ (by (try simp); try omega) _ | refine Below.alloc ?_ (by (try simp); try omega) _)
          · have HF := Lib.hid (show lexR (lex1 KK s.data.toList) = .tuple #[tkV 0 ⟨#[]⟩ 0, .int .i64 0] by rw [HW.out, if_neg (fun h => hl120 h.2)])
            clear HW
            go_wp2_with (first | (go_at_call 108; refine (hU _).mono ?_; rintro e w1 ⟨rfl, hb1⟩; have hR1 := hR0.kept hb1; have hbb : Below w.heap.size w w1 := Below.trans (by repeat (first | exact Below.refl _ _ | refine Below.drew ?_ | refine Below.setCell ?_ (by (try simp); try omega) _ | refine Below.alloc ?_ (by (try simp); try omega) _)) (hb1.mono (by simp)); have c0 := hR1.cell 0; have c1 := hR1.cell 1; have c2 := hR1.cell 2; have f0 := hR1.frozen 0; have f1 := hR1.frozen 1; have f2 := hR1.frozen 2; have hRl := hR1.lt; simp at c0 c1 c2))
            refine bodyPost_ret (v := .tuple #[tkV 0 ⟨#[]⟩ 0, .int .i64 0]) (by simp [results, Tryd.results58, go_sem, c0, c1, c2, tkV]) rfl ⟨ret_v HF.out.symm, ?_⟩
            repeat (first | exact hbb | refine Below.drew ?_ | refine Below.setCell ?_ (by (try simp); try omega) _ | refine Below.alloc ?_ (by (try simp); try omega) _)
      · have g0 : ((s[k].toNat : Int) != (s[0].toNat : Int)) = true := eqM HQ.out e0
        by_cases e2 : s[k] = 92
        · have b2 : ((s[k].toNat : Int) == 92) = true := u8T e2
          have HN := Lib.hid (N_next HR.out (HA.out.trans ((if_neg e0).trans (if_pos e2))))
          have HK := Lib.hid hkd
          clear HR HA hkd e0 e2
          go_wp2_with fail
          go_round
          case rel => exact ⟨k + 2, d + 2, congrArg (Value.int .i64) (by omega), HN, by have := HK.out; omega, by omega⟩
          case measure => simp [intOf]; omega
        · have b2 : ((s[k].toNat : Int) == 92) = false := u8F e2
          have HN := Lib.hid (N_next HR.out (HA.out.trans ((if_neg e0).trans (if_neg e2))))
          have HK := Lib.hid hkd
          clear HR HA hkd e0 e2
          go_wp2_with fail
          go_round
          case rel => exact ⟨k + 1, d + 1, congrArg (Value.int .i64) (by omega), HN, by have := HK.out; omega, by omega⟩
          case measure => simp [intOf]; omega
set_option maxRecDepth 20000 in
set_option maxHeartbeats 8000000 in
theorem lexOne_quc (s : ByteArray) (h0 : 0 < s.size) (hs : s.size ≤ 6000) (hq : s[0] = 39) (w : World) :
    Calls Tryd.prog 58 #[.string s] w fun e w' => e = .returned (lexR (lex1 KK s.data.toList)) ∧ Below w.heap.size w w' := by
  have HE := Lib.hid (lex_quc h0 hq)
  have hl : letB s[0] = false := by rw [hq]; decide
  have hd : digB s[0] = false := by rw [hq]; decide
  have hb8 := byte_bd s[0]
  have b34 : ((s[0].toNat : Int) == 34) = false := by rw [hq]; rfl
  have b39 : ((s[0].toNat : Int) == 39) = true := by rw [hq]; rfl
  have HQ := Lib.hid hq
  have hR0 : Blk (w.alloc (.cells #[.int .i64 0, .string ⟨#[]⟩, .int .i64 0] 61)) w.heap.size 61 #[.int .i64 0, .string ⟨#[]⟩, .int .i64 0] := Blk.new _ _ _
  clear hq
  go_enter Tryd.func58, Tryd.ntmps58
  go_wp2_with (first
    | (go_at_call 94; refine (implLetter _ _).mono ?_; rintro e w' ⟨rfl, rfl⟩)
    | (go_at_call 92; refine (implDigit _ _).mono ?_; rintro e w' ⟨rfl, rfl⟩))
  go_loop [5] (fun i => ∃ k d : Nat, i = .int .i64 k ∧ Hid (scanN 39 (s.data.toList.drop 1) = (scanN 39 (s.data.toList.drop k)).map (· + d)) ∧ k = 1 + d ∧ k ≤ s.size + 1) (fun i => s.size + 1 - (intOf i).toNat)
  case atStart => exact ⟨1, 0, rfl, Lib.hid (by simp), rfl, by omega⟩
  case round =>
    obtain ⟨k, d, rfl, HR, hkd, hk⟩ := hrel
    by_cases hkz : s.size ≤ k
    · have HF := Lib.hid (show lexR (lex1 KK s.data.toList) = .tuple #[tkV 0 ⟨#[]⟩ 0, .int .i64 0] by rw [HE.out, HR.out, S_nil hkz]; rfl)
      clear HR hkd
      go_wp2_with fail
      refine bodyPost_ret (v := .tuple #[tkV 0 ⟨#[]⟩ 0, .int .i64 0]) (by simp [results, Tryd.results58, go_sem, tkV]) rfl ⟨ret_v HF.out.symm, ?_⟩
      repeat (first | exact Below.refl _ _ | refine Below.drew ?_ | refine Below.setCell ?_ (by (try simp); try omega) _ | refine Below.alloc ?_ (by (try simp); try omega) _)
    · have hlt : k < s.size := by omega
      have ik : (k : Int) < (s.size : Int) := by omega
      have HA := Lib.hid (S_at (q := 39) hlt)
      have hkb := byte_bd s[k]
      by_cases e0 : s[k] = 39
      · have g0 : ((s[k].toNat : Int) != (s[0].toNat : Int)) = false := eqN HQ.out e0
        have HJ := Lib.hid (show scanN 39 (s.data.toList.drop 1) = some (1 + d) by rw [HR.out, HA.out, if_pos e0]; rfl)
        obtain ⟨k1, hk1⟩ : ∃ x, x = k + 1 := ⟨_, rfl⟩
        have i1 : (k : Int) + 1 = (k1 : Int) := by omega
        have hk1s : k1 ≤ s.size := by omega
        obtain ⟨X, hX⟩ : ∃ X, X = s.extract 0 k1 := ⟨_, rfl⟩
        have hXs : X.size ≤ 1048576 := by rw [hX, ByteArray.size_extract]; omega
        have hXl : X.data.toList = s.data.toList.take (1 + d + 1) := by rw [hX, ext_take, hk1, hkd]
        have hXX : s.extract 0 k1 = X := hX.symm
        have HV := Lib.hid (show lexR (lex1 KK s.data.toList) = lexR (lexC KK s.data.toList (1 + d)) by rw [HE.out, HJ.out]; rfl)
        obtain ⟨u, hu⟩ : ∃ u, u = ucC (unqL 39 (s.data.toList.take (1 + d + 1))) := ⟨_, rfl⟩
        have HW := Lib.hid (show lexR (lex1 KK s.data.toList) = if u.2 = true then .tuple #[tkV 5 (mkT (csetL u.1.1 u.1.2)) 0, .int .i64 (k1 : Int)] else .tuple #[tkV 0 ⟨#[]⟩ 0, .int .i64 0] by
          rw [HV.out, lexR_C, hu, hk1, hkd])
        have hU : ∀ W : World, Calls Tryd.prog 109 #[.string X] W fun e w' => e = .returned (.tuple #[cs u.1.1 u.1.2, .bool u.2]) ∧ Below W.heap.size W w' := fun W => by
          have := implUnquoteCset X hXs W
          rw [hXl, ← hu] at this
          exact this
        obtain ⟨⟨a, b⟩, m⟩ := u
        have hC : ∀ W : World, Calls Tryd.prog 110 #[cs a b] W fun e w' => e = .returned (.string (mkT (csetL a b))) ∧ Below W.heap.size W w' := fun W => implCsetText a b W
        generalize mkT (csetL a b) = T at hC HW
        clear HR HA hkd e0 HV hX hXl hu hk1 HE HJ
        cases m with
        | false =>
          have HF := Lib.hid (show lexR (lex1 KK s.data.toList) = .tuple #[tkV 0 ⟨#[]⟩ 0, .int .i64 0] by rw [HW.out]; rfl)
          clear HW hC
          go_wp2_with (first | (go_at_call 109; refine (hU _).mono ?_; rintro e w1 ⟨rfl, hb1⟩; have hR1 := hR0.kept hb1; have hbb : Below w.heap.size w w1 := Below.trans (by repeat (first | exact Below.refl _ _ | refine Below.drew ?_ | refine Below.setCell ?_ (by (try simp); try omega) _ | refine Below.alloc ?_ (by (try simp); try omega) _)) (hb1.mono (by simp)); have c0 := hR1.cell 0; have c1 := hR1.cell 1; have c2 := hR1.cell 2; have f0 := hR1.frozen 0; have f1 := hR1.frozen 1; have f2 := hR1.frozen 2; have hRl := hR1.lt; simp at c0 c1 c2))
          refine bodyPost_ret (v := .tuple #[tkV 0 ⟨#[]⟩ 0, .int .i64 0]) (by simp [results, Tryd.results58, go_sem, c0, c1, c2, tkV, hRl]) rfl ⟨ret_v HF.out.symm, ?_⟩
          repeat (first | exact hbb | refine Below.drew ?_ | refine Below.setCell ?_ (by (try simp); try omega) _ | refine Below.alloc ?_ (by (try simp); try omega) _)
        | true =>
          have HF := Lib.hid (show lexR (lex1 KK s.data.toList) = .tuple #[tkV 5 T 0, .int .i64 (k1 : Int)] by rw [HW.out]; rfl)
          clear HW
          go_wp2_with (first | (go_at_call 109; refine (hU _).mono ?_; rintro e w1 ⟨rfl, hb1⟩; have hR1 := hR0.kept hb1; have hbb : Below w.heap.size w w1 := Below.trans (by repeat (first | exact Below.refl _ _ | refine Below.drew ?_ | refine Below.setCell ?_ (by (try simp); try omega) _ | refine Below.alloc ?_ (by (try simp); try omega) _)) (hb1.mono (by simp)); have c0 := hR1.cell 0; have c1 := hR1.cell 1; have c2 := hR1.cell 2; have f0 := hR1.frozen 0; have f1 := hR1.frozen 1; have f2 := hR1.frozen 2; have hRl := hR1.lt; simp at c0 c1 c2) | (go_at_call 110; refine (hC _).mono ?_; rintro e w2 ⟨rfl, hb2⟩; have hR2 := (hR1.alloc _).kept hb2; have hbb := Below.trans (by repeat (first | exact hbb | refine Below.drew ?_ | refine Below.setCell ?_ (by (try simp); try omega) _ | refine Below.alloc ?_ (by (try simp); try omega) _) : Below w.heap.size w _) (hb2.mono (by have := hbb.size; simp; omega)); have c0 := hR2.cell 0; have c1 := hR2.cell 1; have c2 := hR2.cell 2; have f0 := hR2.frozen 0; have f1 := hR2.frozen 1; have f2 := hR2.frozen 2; have hRl := hR2.lt; simp at c0 c1 c2))
          refine bodyPost_ret (v := .tuple #[tkV 5 T 0, .int .i64 (k1 : Int)]) (by simp [results, Tryd.results58, go_sem, c0, c1, c2, tkV]) rfl ⟨ret_v HF.out.symm, ?_⟩
          repeat (first | exact hbb | refine Below.drew ?_ | refine Below.setCell ?_ (by (try simp); try omega) _ | refine Below.alloc ?_ (by (try simp); try omega) _)
      · have g0 : ((s[k].toNat : Int) != (s[0].toNat : Int)) = true := eqM HQ.out e0
        by_cases e2 : s[k] = 92
        · have b2 : ((s[k].toNat : Int) == 92) = true := u8T e2
          have HN := Lib.hid (N_next HR.out (HA.out.trans ((if_neg e0).trans (if_pos e2))))
          have HK := Lib.hid hkd
          clear HR HA hkd e0 e2
          go_wp2_with fail
          go_round
          case rel => exact ⟨k + 2, d + 2, congrArg (Value.int .i64) (by omega), HN, by have := HK.out; omega, by omega⟩
          case measure => simp [intOf]; omega
        · have b2 : ((s[k].toNat : Int) == 92) = false := u8F e2
          have HN := Lib.hid (N_next HR.out (HA.out.trans ((if_neg e0).trans (if_neg e2))))
          have HK := Lib.hid hkd
          clear HR HA hkd e0 e2
          go_wp2_with fail
          go_round
          case rel => exact ⟨k + 1, d + 1, congrArg (Value.int .i64) (by omega), HN, by have := HK.out; omega, by omega⟩
          case measure => simp [intOf]; omega
end Go.Proofs.YtanmkeoieckebaaDoor

namespace Go.Proofs.YtanmkeoieckebaaDoor
open Go.RowKit

theorem head_drop {s : ByteArray} (h1 : 1 < s.size) : (s.data.toList.drop 1).head? = some s[1] := by
  have hz : s.data.toList.length = s.size := rfl
  rw [List.drop_eq_getElem_cons (by omega)]; rfl
theorem head_none {s : ByteArray} (h1 : s.size ≤ 1) : (s.data.toList.drop 1).head? = none := by
  rw [List.drop_eq_nil_of_le (by simpa using h1)]; rfl
theorem lex_kw {s : ByteArray} (h0 : 0 < s.size) (hq : s[0] = 38) (h1 : 1 < s.size) (hl : letB s[1] = true) : lex1 KK s.data.toList = lexK KK ((s.data.toList.drop 1).takeWhile letB) := by
  have hc : s.data.toList = 38 :: s.data.toList.drop 1 := by rw [← hq]; exact list_cons h0
  have hh : ((s.data.toList.drop 1).head?.any letB) = true := by rw [head_drop h1]; exact hl
  generalize hr : s.data.toList.drop 1 = r at hc hh ⊢
  rw [hc, lex1_cons, if_neg (by decide), if_neg (by decide), if_neg (by decide), if_neg (by decide), if_pos ⟨rfl, hh⟩]
theorem lex_op {s : ByteArray} (h0 : 0 < s.size) (hl : letB s[0] = false) (hd : digB s[0] = false) (h34 : s[0] ≠ 34) (h39 : s[0] ≠ 39) (h38 : s[0] ≠ 38 ∨ s.size ≤ 1 ∨ ∃ h : 1 < s.size, letB s[1] = false) : lex1 KK s.data.toList = lexO KK s.data.toList := by
  have hh : ¬ (s[0] = 38 ∧ ((s.data.toList.drop 1).head?.any letB) = true) := by
    rintro ⟨ha, hb⟩
    rcases h38 with h | h | ⟨h, h2⟩
    · exact h ha
    · rw [head_none h] at hb; cases hb
    · rw [head_drop h] at hb
      have : letB s[1] = true := hb
      rw [h2] at this; cases this
  have hc := list_cons h0
  generalize hr : s.data.toList.drop 1 = r at hc hh
  conv => lhs; rw [hc, lex1_cons]
  simp only [hl, hd, h34, h39, hh, Bool.false_eq_true, if_false]
  rw [← hc]
theorem lexR_K (w : List UInt8) : lexR (lexK KK w) = if Lib.containsS zIsKeyword (mkT w) = true then .tuple #[tkV 6 (mkT w) 0, .int .i64 ((w.length + 1 : Nat) : Int)] else .tuple #[tkV 0 ⟨#[]⟩ 0, .int .i64 0] := by
  unfold lexK
  show lexR (if Lib.containsS zIsKeyword (mkT w) = true then some (6, w, w.length + 1) else none) = _
  split <;> rfl
/-- What one step gives; at a fault the length is 0, whatever the token. -/
def LexR (o : Option (Int × List UInt8 × Nat)) (e : Ending) : Prop := match o with
  | none => ∃ k t, e = .returned (.tuple #[tkV k t 0, .int .i64 0])
  | some (k, t, n) => e = .returned (.tuple #[tkV k (mkT t) 0, .int .i64 (n : Int)])
theorem LexR.of (o : Option (Int × List UInt8 × Nat)) : LexR o (.returned (lexR o)) := by
  unfold LexR lexR
  rcases o with _ | ⟨k, t, n⟩
  · exact ⟨0, ⟨#[]⟩, rfl⟩
  · rfl
theorem LexR_op (m : List UInt8) : LexR (lexO KK m) (.returned (.tuple #[tkV 7 ((opB m zOps).getD ⟨#[]⟩) 0, .int .i64 ((((opB m zOps).getD ⟨#[]⟩).size : Nat) : Int)])) := by
  unfold lexO
  show LexR ((opF opsL m).map _) _
  rw [opB_F]
  cases opB m zOps with
  | none => exact ⟨7, ⟨#[]⟩, rfl⟩
  | some x => exact rfl
theorem op_small (m : List UInt8) : ((opB m zOps).getD ⟨#[]⟩).size ≤ 5 := by
  cases ho : opB m zOps with
  | none => exact Nat.zero_le _
  | some o => exact ops_small o (List.mem_of_find?_eq_some ho)
theorem ext1 (s : ByteArray) : s.extract 1 (endOf letB s 1) = mkT ((s.data.toList.drop 1).takeWhile letB) := eo_ext letB s 1
theorem len1 (s : ByteArray) : endOf letB s 1 = ((s.data.toList.drop 1).takeWhile letB).length + 1 := by unfold endOf; omega
set_option maxRecDepth 20000 in
set_option maxHeartbeats 4000000 in
theorem lexOne_kw (s : ByteArray) (h0 : 0 < s.size) (hs : s.size ≤ 6000) (hq : s[0] = 38) (h1 : 1 < s.size) (hl1 : letB s[1] = true) (w : World) (hT : Lib.TabIs Tryd.prog w "strings.asciiSpace" .u8 Lib.asciiSpaceTab) :
    Calls Tryd.prog 58 #[.string s] w fun e w' => e = .returned (lexR (lex1 KK s.data.toList)) ∧ Below w.heap.size w w' := by
  have HE := Lib.hid (lex_kw h0 hq h1 hl1)
  have hl : letB s[0] = false := by rw [hq]; decide
  have hd : digB s[0] = false := by rw [hq]; decide
  have hb8 := byte_bd s[0]
  have b34 : ((s[0].toNat : Int) == 34) = false := by rw [hq]; rfl
  have b39 : ((s[0].toNat : Int) == 39) = false := by rw [hq]; rfl
  have b38 : ((s[0].toNat : Int) == 38) = true := by rw [hq]; rfl
  have h1E : 2 ≤ endOf letB s 1 := by rw [eo_one h1 hl1]; exact eo_ge _ _ _
  have hES := eo_le (p := letB) (s := s) (i := 1) (by omega)
  have HIn := Lib.hid (fun n (ha : 1 ≤ n) (h : n < endOf letB s 1) => eo_in (p := letB) (s := s) ha h)
  have HSt := Lib.hid (fun h => eo_stop (p := letB) (s := s) (i := 1) h)
  have HX := Lib.hid (ext1 s)
  have HLn := Lib.hid (len1 s)
  have hR0 : Blk (w.alloc (.cells #[.int .i64 0, .string ⟨#[]⟩, .int .i64 0] 61)) w.heap.size 61 #[.int .i64 0, .string ⟨#[]⟩, .int .i64 0] := Blk.new _ _ _
  obtain ⟨E, hE⟩ : ∃ E, E = endOf letB s 1 := ⟨_, rfl⟩
  rw [← hE] at h1E hES
  have HEE := Lib.hid hE
  have i1 : (1 : Int) < (s.size : Int) := by omega
  clear hE hq
  go_enter Tryd.func58, Tryd.ntmps58
  go_wp2_with (first
    | (go_at_call 94; refine (implLetter _ _).mono ?_; rintro e w' ⟨rfl, rfl⟩)
            | (go_at_call 92; refine (implDigit _ _).mono ?_; rintro e w' ⟨rfl, rfl⟩))
  go_loop [5] (fun i => ∃ n : Nat, i = .int .i64 n ∧ 1 ≤ n ∧ n ≤ E) (fun i => E - (intOf i).toNat)
  case atStart => exact ⟨1, rfl, by omega, by omega⟩
  case round =>
    obtain ⟨n, rfl, hn1, hn⟩ := hrel
    by_cases hlt : n < E
    · obtain ⟨hns, hp⟩ := HIn.out n hn1 (by rw [← HEE.out]; exact hlt)
      have i0 : (n : Int) < (s.size : Int) := by omega
      have hn8 := byte_bd s[n]
      go_wp2_with (first
        | (go_at_call 94; refine (implLetter _ _).mono ?_; rintro e w' ⟨rfl, rfl⟩))
      go_round
      case rel => exact ⟨n + 1, by go_num, by omega, by omega⟩
      case measure => simp [intOf]; omega
    · obtain rfl : n = E := by omega
      obtain ⟨X, hX⟩ : ∃ X, X = s.extract 1 n := ⟨_, rfl⟩
      have HV := Lib.hid (show lexR (lex1 KK s.data.toList) = if Lib.containsS zIsKeyword X = true then .tuple #[tkV 6 X 0, .int .i64 (n : Int)] else .tuple #[tkV 0 ⟨#[]⟩ 0, .int .i64 0] by
        rw [HE.out, lexR_K, hX, HEE.out, HX.out, HLn.out])
      have hKw := fun (W : World) (hW : Below w.heap.size w W) => implIsKeyword X W (tab_kept hT hW)
      obtain ⟨r1, hr1⟩ : ∃ r, r = Lib.containsS zIsKeyword X := ⟨_, rfl⟩
      rw [← hr1] at HV
      rw [← hr1] at hKw
      have hcase : ¬ n < s.size ∨ ∃ h : n < s.size, letB s[n] = false := by
        rcases Nat.lt_or_ge n s.size with h | h
        · have h2 : endOf letB s 1 < s.size := by rw [← HEE.out]; exact h
          have h3 := HSt.out h2
          simp only [← HEE.out] at h3
          exact .inr ⟨h, h3⟩
        · exact .inl (by omega)
      have hXX : s.extract 1 n = X := hX.symm
      clear hX hr1 hlt
      rcases hcase with h1 | ⟨h1, h2⟩
      all_goals
        cases r1 with
        | true =>
          have HF := Lib.hid (show lexR (lex1 KK s.data.toList) = .tuple #[tkV 6 X 0, .int .i64 (n : Int)] by rw [HV.out]; rfl)
          clear HV
          go_wp2_with (first
            | (go_at_call 94; refine (implLetter _ _).mono ?_; rintro e w' ⟨rfl, rfl⟩)
            | (go_at_call 92; refine (implDigit _ _).mono ?_; rintro e w' ⟨rfl, rfl⟩)
            | (go_at_call 79; refine (hKw _ (by repeat (first | exact Below.refl _ _ | refine Below.drew ?_ | refine Below.setCell ?_ (by (try simp); try omega) _ | refine Below.alloc ?_ (by (try simp); try omega) _))).mono ?_; rintro e w1 ⟨rfl, hb1⟩; have hR1 := hR0.kept hb1; have hbb : Below w.heap.size w w1 := Below.trans (by repeat (first | exact Below.refl _ _ | refine Below.drew ?_ | refine Below.setCell ?_ (by (try simp); try omega) _ | refine Below.alloc ?_ (by (try simp); try omega) _)) (hb1.mono (by simp)); have c0 := hR1.cell 0; have c1 := hR1.cell 1; have c2 := hR1.cell 2; have f0 := hR1.frozen 0; have f1 := hR1.frozen 1; have f2 := hR1.frozen 2; have hRl := hR1.lt; simp at c0 c1 c2))
          refine bodyPost_ret (v := .tuple #[tkV 6 X 0, .int .i64 (n : Int)]) (by simp [results, Tryd.results58, go_sem, c0, c1, c2, tkV]) rfl ⟨ret_v HF.out.symm, ?_⟩
          repeat (first | exact hbb | refine Below.drew ?_ | refine Below.setCell ?_ (by (try simp); try omega) _ | refine Below.alloc ?_ (by (try simp); try omega) _)
        | false =>
          have HF := Lib.hid (show lexR (lex1 KK s.data.toList) = .tuple #[tkV 0 ⟨#[]⟩ 0, .int .i64 0] by rw [HV.out]; rfl)
          clear HV
          go_wp2_with (first
            | (go_at_call 94; refine (implLetter _ _).mono ?_; rintro e w' ⟨rfl, rfl⟩)
            | (go_at_call 92; refine (implDigit _ _).mono ?_; rintro e w' ⟨rfl, rfl⟩)
            | (go_at_call 79; refine (hKw _ (by repeat (first | exact Below.refl _ _ | refine Below.drew ?_ | refine Below.setCell ?_ (by (try simp); try omega) _ | refine Below.alloc ?_ (by (try simp); try omega) _))).mono ?_; rintro e w1 ⟨rfl, hb1⟩; have hR1 := hR0.kept hb1; have hbb : Below w.heap.size w w1 := Below.trans (by repeat (first | exact Below.refl _ _ | refine Below.drew ?_ | refine Below.setCell ?_ (by (try simp); try omega) _ | refine Below.alloc ?_ (by (try simp); try omega) _)) (hb1.mono (by simp)); have c0 := hR1.cell 0; have c1 := hR1.cell 1; have c2 := hR1.cell 2; have f0 := hR1.frozen 0; have f1 := hR1.frozen 1; have f2 := hR1.frozen 2; have hRl := hR1.lt; simp at c0 c1 c2))
          refine bodyPost_ret (v := .tuple #[tkV 0 ⟨#[]⟩ 0, .int .i64 0]) (by simp [results, Tryd.results58, go_sem, c0, c1, c2, tkV]) rfl ⟨ret_v HF.out.symm, ?_⟩
          repeat (first | exact hbb | refine Below.drew ?_ | refine Below.setCell ?_ (by (try simp); try omega) _ | refine Below.alloc ?_ (by (try simp); try omega) _)
set_option maxRecDepth 20000 in
set_option maxHeartbeats 4000000 in
theorem lexOne_op (s : ByteArray) (h0 : 0 < s.size) (hs : s.size ≤ 6000) (hl : letB s[0] = false) (hd : digB s[0] = false) (h34 : s[0] ≠ 34) (h39 : s[0] ≠ 39) (h38 : s[0] ≠ 38 ∨ s.size ≤ 1 ∨ ∃ h : 1 < s.size, letB s[1] = false) (w : World) (hT : Lib.TabIs Tryd.prog w "strings.asciiSpace" .u8 Lib.asciiSpaceTab) :
    Calls Tryd.prog 58 #[.string s] w fun e w' => LexR (lex1 KK s.data.toList) e ∧ Below w.heap.size w w' := by
  have HE := Lib.hid (lex_op h0 hl hd h34 h39 h38)
  have HV := Lib.hid (LexR_op s.data.toList)
  have hOp := fun (W : World) (hW : Below w.heap.size w W) => implLongest s W (tab_kept hT hW)
  have hsm := op_small s.data.toList
  generalize (opB s.data.toList zOps).getD ⟨#[]⟩ = T at HV hOp hsm
  have hb8 := byte_bd s[0]
  have b34 : ((s[0].toNat : Int) == 34) = false := u8F h34
  have b39 : ((s[0].toNat : Int) == 39) = false := u8F h39
  have hR0 : Blk (w.alloc (.cells #[.int .i64 0, .string ⟨#[]⟩, .int .i64 0] 61)) w.heap.size 61 #[.int .i64 0, .string ⟨#[]⟩, .int .i64 0] := Blk.new _ _ _
  clear h34 h39
  have hways : ((s[0].toNat : Int) == 38) = false ∨ (((s[0].toNat : Int) == 38) = true ∧ ¬ 1 < s.size) ∨ (((s[0].toNat : Int) == 38) = true ∧ ∃ h : 1 < s.size, letB s[1] = false) := by
    by_cases e : s[0] = 38
    · rcases h38 with h | h | h
      · exact absurd e h
      · exact .inr (.inl ⟨u8T e, by omega⟩)
      · exact .inr (.inr ⟨u8T e, h⟩)
    · exact .inl (u8F e)
  clear h38
  rcases hways with b38 | ⟨b38, h1⟩ | ⟨b38, h1, h2⟩
  · go_enter Tryd.func58, Tryd.ntmps58
    go_wp2_with (first
      | (go_at_call 94; refine (implLetter _ _).mono ?_; rintro e w' ⟨rfl, rfl⟩)
            | (go_at_call 92; refine (implDigit _ _).mono ?_; rintro e w' ⟨rfl, rfl⟩)
      | (go_at_call 111; refine (hOp _ (by repeat (first | exact Below.refl _ _ | refine Below.drew ?_ | refine Below.setCell ?_ (by (try simp); try omega) _ | refine Below.alloc ?_ (by (try simp); try omega) _))).mono ?_; rintro e w1 ⟨rfl, hb1⟩; have hR1 := hR0.kept hb1; have hbb : Below w.heap.size w w1 := Below.trans (by repeat (first | exact Below.refl _ _ | refine Below.drew ?_ | refine Below.setCell ?_ (by (try simp); try omega) _ | refine Below.alloc ?_ (by (try simp); try omega) _)) (hb1.mono (by simp)); have c0 := hR1.cell 0; have c1 := hR1.cell 1; have c2 := hR1.cell 2; have f0 := hR1.frozen 0; have f1 := hR1.frozen 1; have f2 := hR1.frozen 2; have hRl := hR1.lt; simp at c0 c1 c2))
    refine bodyPost_ret (v := .tuple #[tkV 7 T 0, .int .i64 ((T.size : Nat) : Int)]) (by simp [results, Tryd.results58, go_sem, c0, c1, c2, tkV]) rfl ⟨by rw [HE.out]; exact HV.out, ?_⟩
    repeat (first | exact hbb | refine Below.drew ?_ | refine Below.setCell ?_ (by (try simp); try omega) _ | refine Below.alloc ?_ (by (try simp); try omega) _)
  · have i1 : decide ((1 : Int) < (s.size : Int)) = false := decide_eq_false (by omega)
    go_enter Tryd.func58, Tryd.ntmps58
    go_wp2_with (first
      | (go_at_call 94; refine (implLetter _ _).mono ?_; rintro e w' ⟨rfl, rfl⟩)
            | (go_at_call 92; refine (implDigit _ _).mono ?_; rintro e w' ⟨rfl, rfl⟩)
      | (go_at_call 111; refine (hOp _ (by repeat (first | exact Below.refl _ _ | refine Below.drew ?_ | refine Below.setCell ?_ (by (try simp); try omega) _ | refine Below.alloc ?_ (by (try simp); try omega) _))).mono ?_; rintro e w1 ⟨rfl, hb1⟩; have hR1 := hR0.kept hb1; have hbb : Below w.heap.size w w1 := Below.trans (by repeat (first | exact Below.refl _ _ | refine Below.drew ?_ | refine Below.setCell ?_ (by (try simp); try omega) _ | refine Below.alloc ?_ (by (try simp); try omega) _)) (hb1.mono (by simp)); have c0 := hR1.cell 0; have c1 := hR1.cell 1; have c2 := hR1.cell 2; have f0 := hR1.frozen 0; have f1 := hR1.frozen 1; have f2 := hR1.frozen 2; have hRl := hR1.lt; simp at c0 c1 c2))
    refine bodyPost_ret (v := .tuple #[tkV 7 T 0, .int .i64 ((T.size : Nat) : Int)]) (by simp [results, Tryd.results58, go_sem, c0, c1, c2, tkV]) rfl ⟨by rw [HE.out]; exact HV.out, ?_⟩
    repeat (first | exact hbb | refine Below.drew ?_ | refine Below.setCell ?_ (by (try simp); try omega) _ | refine Below.alloc ?_ (by (try simp); try omega) _)
  · have i1 : (1 : Int) < (s.size : Int) := by omega
    go_enter Tryd.func58, Tryd.ntmps58
    go_wp2_with (first
      | (go_at_call 94; refine (implLetter _ _).mono ?_; rintro e w' ⟨rfl, rfl⟩)
            | (go_at_call 92; refine (implDigit _ _).mono ?_; rintro e w' ⟨rfl, rfl⟩)
      | (go_at_call 111; refine (hOp _ (by repeat (first | exact Below.refl _ _ | refine Below.drew ?_ | refine Below.setCell ?_ (by (try simp); try omega) _ | refine Below.alloc ?_ (by (try simp); try omega) _))).mono ?_; rintro e w1 ⟨rfl, hb1⟩; have hR1 := hR0.kept hb1; have hbb : Below w.heap.size w w1 := Below.trans (by repeat (first | exact Below.refl _ _ | refine Below.drew ?_ | refine Below.setCell ?_ (by (try simp); try omega) _ | refine Below.alloc ?_ (by (try simp); try omega) _)) (hb1.mono (by simp)); have c0 := hR1.cell 0; have c1 := hR1.cell 1; have c2 := hR1.cell 2; have f0 := hR1.frozen 0; have f1 := hR1.frozen 1; have f2 := hR1.frozen 2; have hRl := hR1.lt; simp at c0 c1 c2))
    refine bodyPost_ret (v := .tuple #[tkV 7 T 0, .int .i64 ((T.size : Nat) : Int)]) (by simp [results, Tryd.results58, go_sem, c0, c1, c2, tkV]) rfl ⟨by rw [HE.out]; exact HV.out, ?_⟩
    repeat (first | exact hbb | refine Below.drew ?_ | refine Below.setCell ?_ (by (try simp); try omega) _ | refine Below.alloc ?_ (by (try simp); try omega) _)
/-- One step of the program. -/
theorem lexOne (s : ByteArray) (h0 : 0 < s.size) (hs : s.size ≤ 6000) (w : World) (hT : Lib.TabIs Tryd.prog w "strings.asciiSpace" .u8 Lib.asciiSpaceTab) (hT2 : Lib.TabIs Tryd.prog w "internal/strconv.uint64pow10" .u64 Lib.pow10Tab) :
    Calls Tryd.prog 58 #[.string s] w fun e w' => LexR (lex1 KK s.data.toList) e ∧ Below w.heap.size w w' := by
  have key : ∀ {P : Prop}, (Calls Tryd.prog 58 #[.string s] w fun e w' => e = .returned (lexR (lex1 KK s.data.toList)) ∧ Below w.heap.size w w') → (P → False) ∨ True → Calls Tryd.prog 58 #[.string s] w fun e w' => LexR (lex1 KK s.data.toList) e ∧ Below w.heap.size w w' := fun h _ => h.mono fun e w' ⟨h1, h2⟩ => ⟨by rw [h1]; exact LexR.of _, h2⟩
  cases hl : letB s[0] with
  | true => exact key (P := True) (lexOne_let s h0 hs hl w hT) (.inr trivial)
  | false =>
    cases hd : digB s[0] with
    | true => exact key (P := True) (lexOne_dig s h0 hs hl hd w hT2) (.inr trivial)
    | false =>
      by_cases h34 : s[0] = 34
      · exact key (P := True) (lexOne_quo s h0 hs h34 w) (.inr trivial)
      · by_cases h39 : s[0] = 39
        · exact key (P := True) (lexOne_quc s h0 hs h39 w) (.inr trivial)
        · by_cases h38 : s[0] = 38
          · rcases Nat.lt_or_ge 1 s.size with h1 | h1
            · cases hl1 : letB s[1] with
              | true => exact key (P := True) (lexOne_kw s h0 hs h38 h1 hl1 w hT) (.inr trivial)
              | false => exact lexOne_op s h0 hs hl hd h34 h39 (.inr (.inr ⟨h1, hl1⟩)) w hT
            · exact lexOne_op s h0 hs hl hd h34 h39 (.inr (.inl h1)) w hT
          · exact lexOne_op s h0 hs hl hd h34 h39 (.inl h38) w hT
end Go.Proofs.YtanmkeoieckebaaDoor
