/- Proved here: plain facts on one step of the parting, by index; what the reference's l5One gives at a word and at a number. Condition: the text has at most 6000 bytes. Proved here: what the reference's l5One gives, wherever it begins. Condition: the text has at most 6000 bytes. -/
import Derived.Test.YtanmkeoieckebaaDoorLk
import Derived.Test.YtanmkeoieckebaaDoorLxK
namespace Go.Proofs.YtanmkeoieckebaaDoor
open Go.RowKit

/-- What one step of the reference gives. -/
def LexRi (m : Nat) (o : Option (Int × List UInt8 × Nat)) (e : Ending) : Prop := match o with
  | none => ∃ k t, e = .returned (.tuple #[tkV k t 0, .int .i64 (-1)])
  | some (k, t, n) => e = .returned (.tuple #[tkV k (mkT t) 0, .int .i64 ((m + n : Nat) : Int)])
theorem LexRi.of (m : Nat) (o : Option (Int × List UInt8 × Nat)) : LexRi m o (.returned (lexRi m o)) := by
  unfold LexRi lexRi
  rcases o with _ | ⟨k, t, n⟩
  · exact ⟨0, ⟨#[]⟩, rfl⟩
  · rfl
section
variable {s : ByteArray} {m : Nat}
theorem n_let (h : m < s.size) (hb : letB s[m] = true) : lex1 KK (s.data.toList.drop m) = lexW KK (wordL (s.data.toList.drop m)) := by
  conv => lhs; rw [drop_at h, lex1_cons, if_pos hb, ← drop_at h]
theorem n_dig (h : m < s.size) (hl : letB s[m] = false) (hb : digB s[m] = true) : lex1 KK (s.data.toList.drop m) = lexI (wordL (s.data.toList.drop m)) := by
  conv => lhs; rw [drop_at h, lex1_cons, if_neg (by rw [hl]; decide), if_pos hb, ← drop_at h]
theorem n_quo (h : m < s.size) (hq : s[m] = 34) : lex1 KK (s.data.toList.drop m) = (endN 34 (s.data.toList.drop (m + 1))).bind (lexS (s.data.toList.drop m)) := by
  conv => lhs; rw [drop_at h, lex1_cons, if_neg (by rw [hq]; decide), if_neg (by rw [hq]; decide), if_pos hq, ← drop_at h]
theorem n_quc (h : m < s.size) (hq : s[m] = 39) : lex1 KK (s.data.toList.drop m) = (endN 39 (s.data.toList.drop (m + 1))).bind (lexC KK (s.data.toList.drop m)) := by
  conv => lhs; rw [drop_at h, lex1_cons, if_neg (by rw [hq]; decide), if_neg (by rw [hq]; decide), if_neg (by rw [hq]; decide), if_pos hq, ← drop_at h]
theorem n_head (h1 : m + 1 < s.size) : (s.data.toList.drop (m + 1)).head? = some s[m + 1] := by rw [drop_at h1]; rfl
theorem n_headN (h1 : s.size ≤ m + 1) : (s.data.toList.drop (m + 1)).head? = none := by
  rw [List.drop_eq_nil_of_le (by simpa using h1)]; rfl
theorem n_kw (h : m < s.size) (hq : s[m] = 38) (h1 : m + 1 < s.size) (hl : letB s[m + 1] = true) : lex1 KK (s.data.toList.drop m) = lexK KK ((s.data.toList.drop (m + 1)).takeWhile letB) := by
  conv => lhs; rw [drop_at h, lex1_cons, if_neg (by rw [hq]; decide), if_neg (by rw [hq]; decide), if_neg (by rw [hq]; decide), if_neg (by rw [hq]; decide), if_pos ⟨hq, by rw [n_head h1]; exact hl⟩]
theorem n_op (h : m < s.size) (hl : letB s[m] = false) (hd : digB s[m] = false) (h34 : s[m] ≠ 34) (h39 : s[m] ≠ 39) (h38 : s[m] ≠ 38 ∨ s.size ≤ m + 1 ∨ ∃ h : m + 1 < s.size, letB s[m + 1] = false) : lex1 KK (s.data.toList.drop m) = lexO KK (s.data.toList.drop m) := by
  have hh : ¬ (s[m] = 38 ∧ ((s.data.toList.drop (m + 1)).head?.any letB) = true) := by
    rintro ⟨ha, hb⟩
    rcases h38 with h | h | ⟨h, h2⟩
    · exact h ha
    · rw [n_headN h] at hb; cases hb
    · rw [n_head h] at hb
      have : letB s[m + 1] = true := hb
      rw [h2] at this; cases this
  conv => lhs; rw [drop_at h, lex1_cons, if_neg (by rw [hl]; decide), if_neg (by rw [hd]; decide), if_neg h34, if_neg h39, if_neg hh, ← drop_at h]
theorem n_word (s : ByteArray) (m : Nat) : s.extract m (endOf ldB s m) = mkT (wordL (s.data.toList.drop m)) := eo_ext ldB s m
theorem n_len (s : ByteArray) (m : Nat) : endOf ldB s m = m + (wordL (s.data.toList.drop m)).length := rfl
theorem n_wd (h : m < s.size) (hb : digB s[m] = true) : ∃ b r, wordL (s.data.toList.drop m) = b :: r ∧ digB b = true := by
  rw [drop_at h]
  refine ⟨s[m], (s.data.toList.drop (m + 1)).takeWhile ldB, ?_, hb⟩
  unfold wordL
  rw [List.takeWhile_cons, if_pos (ldB_dig hb)]
end
theorem lexRi_W (m : Nat) (w : List UInt8) : lexRi m (lexW KK w) = if Lib.containsS zIsReserved (mkT w) = true then .tuple #[tkV 2 (mkT w) 0, .int .i64 ((m + w.length : Nat) : Int)] else if nameB (mkT w) = true then .tuple #[tkV 1 (mkT w) 0, .int .i64 ((m + w.length : Nat) : Int)] else .tuple #[tkV 0 ⟨#[]⟩ 0, .int .i64 (-1)] := by
  unfold lexW
  show lexRi m (if Lib.containsS zIsReserved (mkT w) = true then some (2, w, w.length) else if nameB (mkT w) = true then some (1, w, w.length) else none) = _
  split
  · rfl
  · split <;> rfl
theorem lexRi_I (m : Nat) (w : List UInt8) : lexRi m (lexI w) = if (ioOf w).2 = true then .tuple #[tkV 3 (mkT (Lib.itoa (ioOf w).1)) 0, .int .i64 ((m + w.length : Nat) : Int)] else .tuple #[tkV 0 ⟨#[]⟩ 0, .int .i64 (-1)] := by
  unfold lexI
  split <;> rfl
theorem lexRi_S (m : Nat) {l : List UInt8} {j : Nat} : lexRi m (lexS l j) = if (unqL 34 (l.take (j + 1))).isSome = true ∧ ((unqL 34 (l.take (j + 1))).getD []).length ≤ 120 then .tuple #[tkV 4 (mkT ((unqL 34 (l.take (j + 1))).getD [])) 0, .int .i64 ((m + (j + 1) : Nat) : Int)] else .tuple #[tkV 0 ⟨#[]⟩ 0, .int .i64 (-1)] := by
  unfold lexS
  cases unqL 34 (l.take (j + 1)) with
  | none => rfl
  | some t =>
    show lexRi m (if t.length ≤ 120 then some (4, t, j + 1) else none) = _
    by_cases h : t.length ≤ 120
    · rw [if_pos h, if_pos ⟨rfl, h⟩]; rfl
    · rw [if_neg h, if_neg (fun h2 => h h2.2)]; rfl
theorem lexRi_C (m : Nat) {l : List UInt8} {j : Nat} : lexRi m (lexC KK l j) = if (ucC (unqL 39 (l.take (j + 1)))).2 = true then .tuple #[tkV 5 (mkT (csetL (ucC (unqL 39 (l.take (j + 1)))).1.1 (ucC (unqL 39 (l.take (j + 1)))).1.2)) 0, .int .i64 ((m + (j + 1) : Nat) : Int)] else .tuple #[tkV 0 ⟨#[]⟩ 0, .int .i64 (-1)] := by
  unfold lexC
  cases unqL 39 (l.take (j + 1)) with
  | none => rfl
  | some t =>
    show lexRi m (Option.map _ (if (newC t).2 then some (csetL (newC t).1.1 (newC t).1.2) else none)) = if (newC t).2 = true then _ else _
    split <;> rfl
theorem lexRi_K (m : Nat) (w : List UInt8) : lexRi m (lexK KK w) = if Lib.containsS zIsKeyword (mkT w) = true then .tuple #[tkV 6 (mkT w) 0, .int .i64 ((m + (w.length + 1) : Nat) : Int)] else .tuple #[tkV 0 ⟨#[]⟩ 0, .int .i64 (-1)] := by
  unfold lexK
  show lexRi m (if Lib.containsS zIsKeyword (mkT w) = true then some (6, w, w.length + 1) else none) = _
  split <;> rfl
theorem n_take (s : ByteArray) (m j : Nat) : (s.extract m (m + 1 + j)).data.toList = (s.data.toList.drop m).take (j + 1) := by
  rw [Lib.extract_eq]
  show (List.toArray _).toList = _
  rw [show m + 1 + j - m = j + 1 by omega]
theorem n_kext (s : ByteArray) (m : Nat) : s.extract (m + 1) (endOf letB s (m + 1)) = mkT ((s.data.toList.drop (m + 1)).takeWhile letB) := eo_ext letB s (m + 1)
theorem n_klen (s : ByteArray) (m : Nat) : endOf letB s (m + 1) = m + (((s.data.toList.drop (m + 1)).takeWhile letB).length + 1) := by unfold endOf; omega
theorem opB_all {m : List UInt8} {j : Nat} {o : ByteArray} (h : opB m (zOps.take j) = some o) : opB m zOps = some o := by
  unfold opB at h ⊢
  rw [← List.take_append_drop j zOps, List.find?_append, h]; rfl
theorem lexRi_O {m : Nat} {l : List UInt8} {o : ByteArray} (h : opB l zOps = some o) : lexRi m (lexO KK l) = .tuple #[tkV 7 o 0, .int .i64 ((m + o.size : Nat) : Int)] := by
  unfold lexO
  show lexRi m ((opF opsL l).map _) = _
  rw [opB_F, h]; rfl
theorem lexRi_O0 {m : Nat} {l : List UInt8} (h : opB l zOps = none) : lexRi m (lexO KK l) = .tuple #[tkV 0 ⟨#[]⟩ 0, .int .i64 (-1)] := by
  unfold lexO
  show lexRi m ((opF opsL l).map _) = _
  rw [opB_F, h]; rfl
/-- The comparison as the reference makes it. -/
theorem n_pre {s : ByteArray} {m : Nat} (h : m ≤ s.size) (x : ByteArray) : Lib.hasPrefix (s.data.toList.drop m) x.data.toList = (decide (x.size ≤ s.size - m) && ((s.extract m (m + x.size)).toList == x.toList)) := by
  have := Lib.hasPrefix_raw (s.extract m s.size) x
  have e1 : (s.extract m s.size).size = s.size - m := by rw [ByteArray.size_extract]; omega
  rw [e1, ext_drop] at this
  rw [← this]
  by_cases hx : x.size ≤ s.size - m
  · have e2 : (s.extract m s.size).extract 0 x.size = s.extract m (m + x.size) := by
      rw [ByteArray.extract_extract]; congr 1 <;> omega
    rw [e2]
  · rw [decide_eq_false hx]; rfl
set_option maxRecDepth 20000 in
set_option maxHeartbeats 4000000 in
theorem specOne_let (s : ByteArray) (m : Nat) (h : m < s.size) (hs : s.size ≤ 6000) (hb : letB s[m] = true) (w : World) :
    Calls Tryd.prog 55 #[.string s, .int .i64 (m : Int)] w fun e w' => e = .returned (lexRi m (lex1 KK (s.data.toList.drop m))) ∧ Below w.heap.size w w' := by
  have HE := Lib.hid (n_let h hb)
  have h0E : m + 1 ≤ endOf ldB s m := by rw [eo_one h (ldB_let hb)]; exact eo_ge _ _ _
  have hES := eo_le (p := ldB) (s := s) (i := m) (by omega)
  have HIn := Lib.hid (fun n (hn : m ≤ n) (h : n < endOf ldB s m) => eo_in (p := ldB) (s := s) hn h)
  have HSt := Lib.hid (fun h => eo_stop (p := ldB) (s := s) (i := m) h)
  have HX := Lib.hid (n_word s m)
  have HLn := Lib.hid (n_len s m)
  have hb8 := byte_bd s[m]
  have im : (m : Int) < (s.size : Int) := by omega
  have hR0 : Blk (w.alloc (.cells #[.int .i64 0, .string ⟨#[]⟩, .int .i64 0] 61)) w.heap.size 61 #[.int .i64 0, .string ⟨#[]⟩, .int .i64 0] := Blk.new _ _ _
  obtain ⟨E, hE⟩ : ∃ E, E = endOf ldB s m := ⟨_, rfl⟩
  rw [← hE] at h0E hES
  have HEE := Lib.hid hE
  clear hE
  go_enter Tryd.func55, Tryd.ntmps55
  go_wp2_with (first
    | (go_at_call 87; refine (specLetter _ _).mono ?_; rintro e w' ⟨rfl, rfl⟩)
            | (go_at_call 89; refine (specDigit _ _).mono ?_; rintro e w' ⟨rfl, rfl⟩))
  go_loop [7] (fun i => ∃ n : Nat, i = .int .i64 n ∧ m + 1 ≤ n ∧ n ≤ E) (fun i => E - (intOf i).toNat)
  case atStart => exact ⟨m + 1, by go_num, by omega, by omega⟩
  case round =>
    obtain ⟨n, rfl, hnm, hn⟩ := hrel
    by_cases hlt : n < E
    · obtain ⟨hns, hp⟩ := HIn.out n (by omega) (by rw [← HEE.out]; exact hlt)
      have i0 : (n : Int) < (s.size : Int) := by omega
      have hn8 := byte_bd s[n]
      by_cases hl2 : letB s[n] = true
      · clear hp
        go_wp2_with (first
          | (go_at_call 87; refine (specLetter _ _).mono ?_; rintro e w' ⟨rfl, rfl⟩)
            | (go_at_call 89; refine (specDigit _ _).mono ?_; rintro e w' ⟨rfl, rfl⟩))
        go_round
        case rel => exact ⟨n + 1, by go_num, by omega, by omega⟩
        case measure => simp [intOf]; omega
      · have hl' : letB s[n] = false := by simpa using hl2
        have hd' : digB s[n] = true := by unfold ldB at hp; simpa [hl'] using hp
        clear hp hl2
        go_wp2_with (first
          | (go_at_call 87; refine (specLetter _ _).mono ?_; rintro e w' ⟨rfl, rfl⟩)
            | (go_at_call 89; refine (specDigit _ _).mono ?_; rintro e w' ⟨rfl, rfl⟩))
        go_round
        case rel => exact ⟨n + 1, by go_num, by omega, by omega⟩
        case measure => simp [intOf]; omega
    · obtain rfl : n = E := by omega
      obtain ⟨X, hX⟩ : ∃ X, X = s.extract m n := ⟨_, rfl⟩
      have hXs : X.size ≤ 1048576 := by rw [hX, ByteArray.size_extract]; omega
      have hcase : ¬ n < s.size ∨ ∃ h : n < s.size, letB s[n] = false ∧ digB s[n] = false := by
        rcases Nat.lt_or_ge n s.size with h | h
        · have h2 : endOf ldB s m < s.size := by rw [← HEE.out]; exact h
          have h3 := HSt.out h2
          simp only [← HEE.out] at h3
          exact .inr ⟨h, ldB_not h3⟩
        · exact .inl (by omega)
      have hXX : s.extract m n = X := hX.symm
      have HV := Lib.hid (show lexRi m (lex1 KK (s.data.toList.drop m)) = if Lib.containsS zIsReserved X = true then .tuple #[tkV 2 X 0, .int .i64 (n : Int)] else if nameB X = true then .tuple #[tkV 1 X 0, .int .i64 (n : Int)] else .tuple #[tkV 0 ⟨#[]⟩ 0, .int .i64 (-1)] by
        rw [HE.out, lexRi_W, hX, HEE.out, HX.out, HLn.out])
      have hRes := fun (W : World) => specIsReserved X W
      have hNam := fun (W : World) => specName X hXs W
      obtain ⟨r1, hr1⟩ : ∃ r, r = Lib.containsS zIsReserved X := ⟨_, rfl⟩
      obtain ⟨r2, hr2⟩ : ∃ r, r = nameB X := ⟨_, rfl⟩
      rw [← hr1, ← hr2] at HV
      rw [← hr1] at hRes
      rw [← hr2] at hNam
      clear hX hr1 hr2 hlt hn
      rcases hcase with h1 | ⟨h1, h2, h3⟩
      all_goals
        cases r1 with
        | true =>
          have HF := Lib.hid (show lexRi m (lex1 KK (s.data.toList.drop m)) = .tuple #[tkV 2 X 0, .int .i64 (n : Int)] by rw [HV.out]; rfl)
          clear HV
          go_wp2_with (first
            | (go_at_call 87; refine (specLetter _ _).mono ?_; rintro e w' ⟨rfl, rfl⟩) | (go_at_call 89; refine (specDigit _ _).mono ?_; rintro e w' ⟨rfl, rfl⟩)
            | (go_at_call 88; refine (hRes _).mono ?_; rintro e w1 ⟨rfl, hw1⟩; have hR1 := hR0.kept hw1; have hbb : Below w.heap.size w w1 := Below.trans (by repeat (first | exact Below.refl _ _ | refine Below.drew ?_ | refine Below.setCell ?_ (by (try simp); try omega) _ | refine Below.alloc ?_ (by (try simp); try omega) _)) (hw1.mono (by simp)); have c0 := hR1.cell 0; have c1 := hR1.cell 1; have c2 := hR1.cell 2; have f0 := hR1.frozen 0; have f1 := hR1.frozen 1; have f2 := hR1.frozen 2; have hRl := hR1.lt; simp at c0 c1 c2)
            | (go_at_call 46; refine (hNam _).mono ?_; rintro e w2 ⟨rfl, hw2⟩; have hR2 := hR1.kept hw2; have hbb := hbb.trans (hw2.mono hbb.size); have c0 := hR2.cell 0; have c1 := hR2.cell 1; have c2 := hR2.cell 2; have f0 := hR2.frozen 0; have f1 := hR2.frozen 1; have f2 := hR2.frozen 2; have hRl := hR2.lt; simp at c0 c1 c2))
          refine bodyPost_ret (v := .tuple #[tkV 2 X 0, .int .i64 (n : Int)]) (by simp [results, Tryd.results55, go_sem, c0, c1, c2, tkV]) rfl ⟨ret_v HF.out.symm, ?_⟩
          repeat (first | exact hbb | refine Below.drew ?_ | refine Below.setCell ?_ (by (try simp); try omega) _ | refine Below.alloc ?_ (by (try simp); try omega) _)
        | false =>
          cases r2 with
          | true =>
            have HF := Lib.hid (show lexRi m (lex1 KK (s.data.toList.drop m)) = .tuple #[tkV 1 X 0, .int .i64 (n : Int)] by rw [HV.out]; rfl)
            clear HV
            go_wp2_with (first
              | (go_at_call 87; refine (specLetter _ _).mono ?_; rintro e w' ⟨rfl, rfl⟩) | (go_at_call 89; refine (specDigit _ _).mono ?_; rintro e w' ⟨rfl, rfl⟩)
              | (go_at_call 88; refine (hRes _).mono ?_; rintro e w1 ⟨rfl, hw1⟩; have hR1 := hR0.kept hw1; have hbb : Below w.heap.size w w1 := Below.trans (by repeat (first | exact Below.refl _ _ | refine Below.drew ?_ | refine Below.setCell ?_ (by (try simp); try omega) _ | refine Below.alloc ?_ (by (try simp); try omega) _)) (hw1.mono (by simp)); have c0 := hR1.cell 0; have c1 := hR1.cell 1; have c2 := hR1.cell 2; have f0 := hR1.frozen 0; have f1 := hR1.frozen 1; have f2 := hR1.frozen 2; have hRl := hR1.lt; simp at c0 c1 c2)
              | (go_at_call 46; refine (hNam _).mono ?_; rintro e w2 ⟨rfl, hw2⟩; have hR2 := hR1.kept hw2; have hbb := hbb.trans (hw2.mono hbb.size); have c0 := hR2.cell 0; have c1 := hR2.cell 1; have c2 := hR2.cell 2; have f0 := hR2.frozen 0; have f1 := hR2.frozen 1; have f2 := hR2.frozen 2; have hRl := hR2.lt; simp at c0 c1 c2))
            refine bodyPost_ret (v := .tuple #[tkV 1 X 0, .int .i64 (n : Int)]) (by simp [results, Tryd.results55, go_sem, c0, c1, c2, tkV]) rfl ⟨ret_v HF.out.symm, ?_⟩
            repeat (first | exact hbb | refine Below.drew ?_ | refine Below.setCell ?_ (by (try simp); try omega) _ | refine Below.alloc ?_ (by (try simp); try omega) _)
          | false =>
            have HF := Lib.hid (show lexRi m (lex1 KK (s.data.toList.drop m)) = .tuple #[tkV 0 ⟨#[]⟩ 0, .int .i64 (-1)] by rw [HV.out]; rfl)
            clear HV
            go_wp2_with (first
              | (go_at_call 87; refine (specLetter _ _).mono ?_; rintro e w' ⟨rfl, rfl⟩) | (go_at_call 89; refine (specDigit _ _).mono ?_; rintro e w' ⟨rfl, rfl⟩)
              | (go_at_call 88; refine (hRes _).mono ?_; rintro e w1 ⟨rfl, hw1⟩; have hR1 := hR0.kept hw1; have hbb : Below w.heap.size w w1 := Below.trans (by repeat (first | exact Below.refl _ _ | refine Below.drew ?_ | refine Below.setCell ?_ (by (try simp); try omega) _ | refine Below.alloc ?_ (by (try simp); try omega) _)) (hw1.mono (by simp)); have c0 := hR1.cell 0; have c1 := hR1.cell 1; have c2 := hR1.cell 2; have f0 := hR1.frozen 0; have f1 := hR1.frozen 1; have f2 := hR1.frozen 2; have hRl := hR1.lt; simp at c0 c1 c2)
              | (go_at_call 46; refine (hNam _).mono ?_; rintro e w2 ⟨rfl, hw2⟩; have hR2 := hR1.kept hw2; have hbb := hbb.trans (hw2.mono hbb.size); have c0 := hR2.cell 0; have c1 := hR2.cell 1; have c2 := hR2.cell 2; have f0 := hR2.frozen 0; have f1 := hR2.frozen 1; have f2 := hR2.frozen 2; have hRl := hR2.lt; simp at c0 c1 c2))
            refine bodyPost_ret (v := .tuple #[tkV 0 ⟨#[]⟩ 0, .int .i64 (-1)]) (by simp [results, Tryd.results55, go_sem, c0, c1, c2, tkV]) rfl ⟨ret_v HF.out.symm, ?_⟩
            repeat (first | exact hbb | refine Below.drew ?_ | refine Below.setCell ?_ (by (try simp); try omega) _ | refine Below.alloc ?_ (by (try simp); try omega) _)
set_option maxRecDepth 20000 in
set_option maxHeartbeats 4000000 in
theorem specOne_dig (s : ByteArray) (m : Nat) (h : m < s.size) (hs : s.size ≤ 6000) (hl : letB s[m] = false) (hb : digB s[m] = true) (w : World) :
    Calls Tryd.prog 55 #[.string s, .int .i64 (m : Int)] w fun e w' => e = .returned (lexRi m (lex1 KK (s.data.toList.drop m))) ∧ Below w.heap.size w w' := by
  have HE := Lib.hid (n_dig h hl hb)
  have HW := Lib.hid (n_wd h hb)
  have h0E : m + 1 ≤ endOf ldB s m := by rw [eo_one h (ldB_dig hb)]; exact eo_ge _ _ _
  have hES := eo_le (p := ldB) (s := s) (i := m) (by omega)
  have HIn := Lib.hid (fun n (hn : m ≤ n) (h : n < endOf ldB s m) => eo_in (p := ldB) (s := s) hn h)
  have HSt := Lib.hid (fun h => eo_stop (p := ldB) (s := s) (i := m) h)
  have HX := Lib.hid (n_word s m)
  have HLn := Lib.hid (n_len s m)
  have hb8 := byte_bd s[m]
  have im : (m : Int) < (s.size : Int) := by omega
  have hR0 : Blk (w.alloc (.cells #[.int .i64 0, .string ⟨#[]⟩, .int .i64 0] 61)) w.heap.size 61 #[.int .i64 0, .string ⟨#[]⟩, .int .i64 0] := Blk.new _ _ _
  obtain ⟨E, hE⟩ : ∃ E, E = endOf ldB s m := ⟨_, rfl⟩
  rw [← hE] at h0E hES
  have HEE := Lib.hid hE
  clear hE
  go_enter Tryd.func55, Tryd.ntmps55
  go_wp2_with (first
    | (go_at_call 87; refine (specLetter _ _).mono ?_; rintro e w' ⟨rfl, rfl⟩)
            | (go_at_call 89; refine (specDigit _ _).mono ?_; rintro e w' ⟨rfl, rfl⟩))
  go_loop [7] (fun i => ∃ n : Nat, i = .int .i64 n ∧ m + 1 ≤ n ∧ n ≤ E) (fun i => E - (intOf i).toNat)
  case atStart => exact ⟨m + 1, by go_num, by omega, by omega⟩
  case round =>
    obtain ⟨n, rfl, hnm, hn⟩ := hrel
    by_cases hlt : n < E
    · obtain ⟨hns, hp⟩ := HIn.out n (by omega) (by rw [← HEE.out]; exact hlt)
      have i0 : (n : Int) < (s.size : Int) := by omega
      have hn8 := byte_bd s[n]
      by_cases hl2 : letB s[n] = true
      · clear hp
        go_wp2_with (first
          | (go_at_call 87; refine (specLetter _ _).mono ?_; rintro e w' ⟨rfl, rfl⟩)
            | (go_at_call 89; refine (specDigit _ _).mono ?_; rintro e w' ⟨rfl, rfl⟩))
        go_round
        case rel => exact ⟨n + 1, by go_num, by omega, by omega⟩
        case measure => simp [intOf]; omega
      · have hl' : letB s[n] = false := by simpa using hl2
        have hd' : digB s[n] = true := by unfold ldB at hp; simpa [hl'] using hp
        clear hp hl2
        go_wp2_with (first
          | (go_at_call 87; refine (specLetter _ _).mono ?_; rintro e w' ⟨rfl, rfl⟩)
            | (go_at_call 89; refine (specDigit _ _).mono ?_; rintro e w' ⟨rfl, rfl⟩))
        go_round
        case rel => exact ⟨n + 1, by go_num, by omega, by omega⟩
        case measure => simp [intOf]; omega
    · obtain rfl : n = E := by omega
      obtain ⟨X, hX⟩ : ∃ X, X = s.extract m n := ⟨_, rfl⟩
      have hXs : X.size ≤ 1048576 := by rw [hX, ByteArray.size_extract]; omega
      have hcase : ¬ n < s.size ∨ ∃ h : n < s.size, letB s[n] = false ∧ digB s[n] = false := by
        rcases Nat.lt_or_ge n s.size with h | h
        · have h2 : endOf ldB s m < s.size := by rw [← HEE.out]; exact h
          have h3 := HSt.out h2
          simp only [← HEE.out] at h3
          exact .inr ⟨h, ldB_not h3⟩
        · exact .inl (by omega)
      have hXX : s.extract m n = X := hX.symm
      have hXl : X.data.toList = wordL (s.data.toList.drop m) := by rw [hX, HEE.out, HX.out, mkT_list]
      have hio := specIntegerOf X hXs
      rw [hXl] at hio
      obtain ⟨z, hz⟩ : ∃ z, z = (ioOf (wordL (s.data.toList.drop m))).1 := ⟨_, rfl⟩
      obtain ⟨q, hq⟩ : ∃ q, q = (ioOf (wordL (s.data.toList.drop m))).2 := ⟨_, rfl⟩
      rw [← hz, ← hq] at hio
      have HV := Lib.hid (show lexRi m (lex1 KK (s.data.toList.drop m)) = if q = true then .tuple #[tkV 3 (mkT (Lib.itoa z)) 0, .int .i64 (n : Int)] else .tuple #[tkV 0 ⟨#[]⟩ 0, .int .i64 (-1)] by
        rw [HE.out, lexRi_I, hz, hq, HEE.out, HLn.out])
      have HB := Lib.hid (show q = true → 0 ≤ z ∧ z ≤ 999999999999 by rw [hz, hq]; exact fun h => io_bd _ h HW.out)
      clear hX hz hq hXl hlt hn hXs
      cases q with
      | true =>
        have HF := Lib.hid (show lexRi m (lex1 KK (s.data.toList.drop m)) = .tuple #[tkV 3 (mkT (Lib.itoa z)) 0, .int .i64 (n : Int)] by rw [HV.out]; rfl)
        obtain ⟨z0, z1⟩ := HB.out rfl
        have hFm : ∀ W : World, Calls Tryd.prog 98 #[.int .i64 z] W fun e w' => e = .returned (.string (mkT (Lib.itoa z))) ∧ Below W.heap.size W w' := fun W => specFmt z ⟨by omega, by omega⟩ W
        generalize mkT (Lib.itoa z) = T at hFm HF
        clear HV HB
        rcases hcase with h1 | ⟨h1, h2, h3⟩
        all_goals
          go_wp2_with (first
            | (go_at_call 87; refine (specLetter _ _).mono ?_; rintro e w' ⟨rfl, rfl⟩)
            | (go_at_call 89; refine (specDigit _ _).mono ?_; rintro e w' ⟨rfl, rfl⟩)
            | (go_at_call 97; refine (hio _).mono ?_; rintro e w' ⟨rfl, rfl⟩)
            | (go_at_call 98; refine (hFm _).mono ?_; rintro e w1 ⟨rfl, hw1⟩; have hR1 := hR0.kept hw1; have hbb : Below w.heap.size w w1 := Below.trans (by repeat (first | exact Below.refl _ _ | refine Below.drew ?_ | refine Below.setCell ?_ (by (try simp); try omega) _ | refine Below.alloc ?_ (by (try simp); try omega) _)) (hw1.mono (by simp)); have c0 := hR1.cell 0; have c1 := hR1.cell 1; have c2 := hR1.cell 2; have f0 := hR1.frozen 0; have f1 := hR1.frozen 1; have f2 := hR1.frozen 2; have hRl := hR1.lt; simp at c0 c1 c2))
          refine bodyPost_ret (v := .tuple #[tkV 3 T 0, .int .i64 (n : Int)]) (by simp [results, Tryd.results55, go_sem, c0, c1, c2, tkV]) rfl ⟨ret_v HF.out.symm, ?_⟩
          repeat (first | exact hbb | refine Below.drew ?_ | refine Below.setCell ?_ (by (try simp); try omega) _ | refine Below.alloc ?_ (by (try simp); try omega) _)
      | false =>
        have HF := Lib.hid (show lexRi m (lex1 KK (s.data.toList.drop m)) = .tuple #[tkV 0 ⟨#[]⟩ 0, .int .i64 (-1)] by rw [HV.out]; rfl)
        clear HV HB
        rcases hcase with h1 | ⟨h1, h2, h3⟩
        all_goals
          go_wp2_with (first
            | (go_at_call 87; refine (specLetter _ _).mono ?_; rintro e w' ⟨rfl, rfl⟩)
            | (go_at_call 89; refine (specDigit _ _).mono ?_; rintro e w' ⟨rfl, rfl⟩)
            | (go_at_call 97; refine (hio _).mono ?_; rintro e w' ⟨rfl, rfl⟩))
          refine bodyPost_ret (v := .tuple #[tkV 0 ⟨#[]⟩ 0, .int .i64 (-1)]) (by simp [results, Tryd.results55, go_sem, tkV]) rfl ⟨ret_v HF.out.symm, ?_⟩
          repeat (first | exact Below.refl _ _ | refine Below.drew ?_ | refine Below.setCell ?_ (by (try simp); try omega) _ | refine Below.alloc ?_ (by (try simp); try omega) _)
end Go.Proofs.YtanmkeoieckebaaDoor

namespace Go.Proofs.YtanmkeoieckebaaDoor
open Go.RowKit

theorem end_le {q : UInt8} {s : ByteArray} {m j : Nat} (h : endN q (s.data.toList.drop (m + 1)) = some j) (hm : m < s.size) : m + 1 + j ≤ s.size := by
  have h1 := scanN_le q _ _ (Nat.le_refl _) j (scan_of_end _ _ (Nat.le_refl _) j h)
  rw [List.length_drop, show s.data.toList.length = s.size from rfl] at h1
  omega
set_option maxRecDepth 20000 in
set_option maxHeartbeats 8000000 in
theorem specOne_quo (s : ByteArray) (m : Nat) (h : m < s.size) (hs : s.size ≤ 6000) (hq : s[m] = 34) (w : World) :
    Calls Tryd.prog 55 #[.string s, .int .i64 (m : Int)] w fun e w' => e = .returned (lexRi m (lex1 KK (s.data.toList.drop m))) ∧ Below w.heap.size w w' := by
  have HE := Lib.hid (n_quo h hq)
  have hl : letB s[m] = false := by rw [hq]; decide
  have hd : digB s[m] = false := by rw [hq]; decide
  have hb8 := byte_bd s[m]
  have b34 : ((s[m].toNat : Int) == 34) = true := by rw [hq]; rfl
  have im : (m : Int) < (s.size : Int) := by omega
  have hEn := fun W => specEnd 34 s (by omega) m h hq W
  have hR0 : Blk (w.alloc (.cells #[.int .i64 0, .string ⟨#[]⟩, .int .i64 0] 61)) w.heap.size 61 #[.int .i64 0, .string ⟨#[]⟩, .int .i64 0] := Blk.new _ _ _
  clear hq
  cases he : endN 34 (s.data.toList.drop (m + 1)) with
  | none =>
    have HF := Lib.hid (show lexRi m (lex1 KK (s.data.toList.drop m)) = .tuple #[tkV 0 ⟨#[]⟩ 0, .int .i64 (-1)] by rw [HE.out, he]; rfl)
    rw [endI_none he] at hEn
    clear HE he
    go_enter Tryd.func55, Tryd.ntmps55
    go_wp2_with (first
      | (go_at_call 87; refine (specLetter _ _).mono ?_; rintro e w' ⟨rfl, rfl⟩) | (go_at_call 89; refine (specDigit _ _).mono ?_; rintro e w' ⟨rfl, rfl⟩)
      | (go_at_call 99; refine (hEn _).mono ?_; rintro e w1 ⟨rfl, hb1⟩; have hR1 := hR0.kept hb1; have hbb : Below w.heap.size w w1 := Below.trans (by repeat (first | exact Below.refl _ _ | refine Below.drew ?_ | refine Below.setCell ?_ (by (try simp); try omega) _ | refine Below.alloc ?_ (by (try simp); try omega) _)) (hb1.mono (by simp)); have c0 := hR1.cell 0; have c1 := hR1.cell 1; have c2 := hR1.cell 2; have f0 := hR1.frozen 0; have f1 := hR1.frozen 1; have f2 := hR1.frozen 2; have hRl := hR1.lt; simp at c0 c1 c2))
    refine bodyPost_ret (v := .tuple #[tkV 0 ⟨#[]⟩ 0, .int .i64 (-1)]) (by simp [results, Tryd.results55, go_sem, c0, c1, c2, tkV]) rfl ⟨ret_v HF.out.symm, ?_⟩
    repeat (first | exact hbb | refine Below.drew ?_ | refine Below.setCell ?_ (by (try simp); try omega) _ | refine Below.alloc ?_ (by (try simp); try omega) _)
  | some j =>
    have HV := Lib.hid (show lexRi m (lex1 KK (s.data.toList.drop m)) = lexRi m (lexS (s.data.toList.drop m) j) by rw [HE.out, he]; rfl)
    have hle := end_le he h
    rw [endI_some he] at hEn
    obtain ⟨k1, hk1⟩ : ∃ x, x = m + 1 + j := ⟨_, rfl⟩
    have e1 : (m : Int) + 1 + (j : Int) = (k1 : Int) := by omega
    rw [e1] at hEn
    obtain ⟨X, hX⟩ : ∃ X, X = s.extract m k1 := ⟨_, rfl⟩
    have hXs : X.size ≤ 1048576 := by rw [hX, ByteArray.size_extract]; omega
    have hXl : X.data.toList = (s.data.toList.drop m).take (j + 1) := by rw [hX, hk1, n_take]
    have hXX : s.extract m k1 = X := hX.symm
    have hk1s : k1 ≤ s.size := by omega
    have hk1m : m ≤ k1 := by omega
    have hk2 : m + (j + 1) = k1 := by omega
    obtain ⟨o, ho⟩ : ∃ o, o = unqL 34 ((s.data.toList.drop m).take (j + 1)) := ⟨_, rfl⟩
    have HW := Lib.hid (show lexRi m (lex1 KK (s.data.toList.drop m)) = if o.isSome = true ∧ (o.getD []).length ≤ 120 then .tuple #[tkV 4 (mkT (o.getD [])) 0, .int .i64 (k1 : Int)] else .tuple #[tkV 0 ⟨#[]⟩ 0, .int .i64 (-1)] by
      rw [HV.out, lexRi_S, ho, hk2])
    have hU : ∀ W : World, Calls Tryd.prog 100 #[.string X] W fun e w' => e = .returned (.tuple #[.string (mkT (o.getD [])), .bool o.isSome]) ∧ Below W.heap.size W w' := fun W => by
      have := specUnquoteText X hXs W
      rw [hXl, ← ho] at this
      exact this
    obtain ⟨T, hT⟩ : ∃ T, T = mkT (o.getD []) := ⟨_, rfl⟩
    have HTl := Lib.hid (show T.size = (o.getD []).length by rw [hT]; exact mkT_size _)
    rw [← hT] at hU HW
    obtain ⟨b, hb⟩ : ∃ b, b = o.isSome := ⟨_, rfl⟩
    rw [← hb] at hU HW
    rw [← HTl.out] at HW
    clear HV hX hXl ho hT hb hk1 HTl HE hk2 he e1
    cases b with
    | false =>
      have HF := Lib.hid (show lexRi m (lex1 KK (s.data.toList.drop m)) = .tuple #[tkV 0 ⟨#[]⟩ 0, .int .i64 (-1)] by rw [HW.out]; simp)
      clear HW
      go_enter Tryd.func55, Tryd.ntmps55
      go_wp2_with (first
          | (go_at_call 87; refine (specLetter _ _).mono ?_; rintro e w' ⟨rfl, rfl⟩) | (go_at_call 89; refine (specDigit _ _).mono ?_; rintro e w' ⟨rfl, rfl⟩)
          | (go_at_call 99; refine (hEn _).mono ?_; rintro e w1 ⟨rfl, hb1⟩; have hR1 := hR0.kept hb1; have hbb : Below w.heap.size w w1 := Below.trans (by repeat (first | exact Below.refl _ _ | refine Below.drew ?_ | refine Below.setCell ?_ (by (try simp); try omega) _ | refine Below.alloc ?_ (by (try simp); try omega) _)) (hb1.mono (by simp)); have c0 := hR1.cell 0; have c1 := hR1.cell 1; have c2 := hR1.cell 2; have f0 := hR1.frozen 0; have f1 := hR1.frozen 1; have f2 := hR1.frozen 2; have hRl := hR1.lt; simp at c0 c1 c2)
          | (go_at_call 100; refine (hU _).mono ?_; rintro e w2 ⟨rfl, hb2⟩; have hR2 := hR1.kept hb2; have hbb := hbb.trans (hb2.mono hbb.size); have c0 := hR2.cell 0; have c1 := hR2.cell 1; have c2 := hR2.cell 2; have f0 := hR2.frozen 0; have f1 := hR2.frozen 1; have f2 := hR2.frozen 2; have hRl := hR2.lt; simp at c0 c1 c2))
      refine bodyPost_ret (v := .tuple #[tkV 0 ⟨#[]⟩ 0, .int .i64 (-1)]) (by simp [results, Tryd.results55, go_sem, c0, c1, c2, tkV]) rfl ⟨ret_v HF.out.symm, ?_⟩
      repeat (first | exact hbb | refine Below.drew ?_ | refine Below.setCell ?_ (by (try simp); try omega) _ | refine Below.alloc ?_ (by (try simp); try omega) _)
    | true =>
      by_cases hl120 : T.size ≤ 120
      · have HF := Lib.hid (show lexRi m (lex1 KK (s.data.toList.drop m)) = .tuple #[tkV 4 T 0, .int .i64 (k1 : Int)] by rw [HW.out, if_pos ⟨rfl, hl120⟩])
        clear HW
        go_enter Tryd.func55, Tryd.ntmps55
        go_wp2_with (first
          | (go_at_call 87; refine (specLetter _ _).mono ?_; rintro e w' ⟨rfl, rfl⟩) | (go_at_call 89; refine (specDigit _ _).mono ?_; rintro e w' ⟨rfl, rfl⟩)
          | (go_at_call 99; refine (hEn _).mono ?_; rintro e w1 ⟨rfl, hb1⟩; have hR1 := hR0.kept hb1; have hbb : Below w.heap.size w w1 := Below.trans (by repeat (first | exact Below.refl _ _ | refine Below.drew ?_ | refine Below.setCell ?_ (by (try simp); try omega) _ | refine Below.alloc ?_ (by (try simp); try omega) _)) (hb1.mono (by simp)); have c0 := hR1.cell 0; have c1 := hR1.cell 1; have c2 := hR1.cell 2; have f0 := hR1.frozen 0; have f1 := hR1.frozen 1; have f2 := hR1.frozen 2; have hRl := hR1.lt; simp at c0 c1 c2)
          | (go_at_call 100; refine (hU _).mono ?_; rintro e w2 ⟨rfl, hb2⟩; have hR2 := hR1.kept hb2; have hbb := hbb.trans (hb2.mono hbb.size); have c0 := hR2.cell 0; have c1 := hR2.cell 1; have c2 := hR2.cell 2; have f0 := hR2.frozen 0; have f1 := hR2.frozen 1; have f2 := hR2.frozen 2; have hRl := hR2.lt; simp at c0 c1 c2))
        refine bodyPost_ret (v := .tuple #[tkV 4 T 0, .int .i64 (k1 : Int)]) (by simp [results, Tryd.results55, go_sem, c0, c1, c2, tkV]) rfl ⟨ret_v HF.out.symm, ?_⟩
        repeat (first | exact hbb | refine Below.drew ?_ | refine Below.setCell ?_ (by (try simp); try omega) _ | refine Below.alloc ?_ (by (try simp); try omega) _)
      · have HF := Lib.hid (show lexRi m (lex1 KK (s.data.toList.drop m)) = .tuple #[tkV 0 ⟨#[]⟩ 0, .int .i64 (-1)] by rw [HW.out, if_neg (fun h => hl120 h.2)])
        clear HW
        go_enter Tryd.func55, Tryd.ntmps55
        go_wp2_with (first
          | (go_at_call 87; refine (specLetter _ _).mono ?_; rintro e w' ⟨rfl, rfl⟩) | (go_at_call 89; refine (specDigit _ _).mono ?_; rintro e w' ⟨rfl, rfl⟩)
          | (go_at_call 99; refine (hEn _).mono ?_; rintro e w1 ⟨rfl, hb1⟩; have hR1 := hR0.kept hb1; have hbb : Below w.heap.size w w1 := Below.trans (by repeat (first | exact Below.refl _ _ | refine Below.drew ?_ | refine Below.setCell ?_ (by (try simp); try omega) _ | refine Below.alloc ?_ (by (try simp); try omega) _)) (hb1.mono (by simp)); have c0 := hR1.cell 0; have c1 := hR1.cell 1; have c2 := hR1.cell 2; have f0 := hR1.frozen 0; have f1 := hR1.frozen 1; have f2 := hR1.frozen 2; have hRl := hR1.lt; simp at c0 c1 c2)
          | (go_at_call 100; refine (hU _).mono ?_; rintro e w2 ⟨rfl, hb2⟩; have hR2 := hR1.kept hb2; have hbb := hbb.trans (hb2.mono hbb.size); have c0 := hR2.cell 0; have c1 := hR2.cell 1; have c2 := hR2.cell 2; have f0 := hR2.frozen 0; have f1 := hR2.frozen 1; have f2 := hR2.frozen 2; have hRl := hR2.lt; simp at c0 c1 c2))
        refine bodyPost_ret (v := .tuple #[tkV 0 ⟨#[]⟩ 0, .int .i64 (-1)]) (by simp [results, Tryd.results55, go_sem, c0, c1, c2, tkV]) rfl ⟨ret_v HF.out.symm, ?_⟩
        repeat (first | exact hbb | refine Below.drew ?_ | refine Below.setCell ?_ (by (try simp); try omega) _ | refine Below.alloc ?_ (by (try simp); try omega) _)
set_option maxRecDepth 20000 in
set_option maxHeartbeats 8000000 in
theorem specOne_quc (s : ByteArray) (m : Nat) (h : m < s.size) (hs : s.size ≤ 6000) (hq : s[m] = 39) (w : World) :
    Calls Tryd.prog 55 #[.string s, .int .i64 (m : Int)] w fun e w' => e = .returned (lexRi m (lex1 KK (s.data.toList.drop m))) ∧ Below w.heap.size w w' := by
  have HE := Lib.hid (n_quc h hq)
  have hl : letB s[m] = false := by rw [hq]; decide
  have hd : digB s[m] = false := by rw [hq]; decide
  have hb8 := byte_bd s[m]
  have b34 : ((s[m].toNat : Int) == 34) = false := by rw [hq]; rfl
  have b39 : ((s[m].toNat : Int) == 39) = true := by rw [hq]; rfl
  have im : (m : Int) < (s.size : Int) := by omega
  have hEn := fun W => specEnd 39 s (by omega) m h hq W
  have hR0 : Blk (w.alloc (.cells #[.int .i64 0, .string ⟨#[]⟩, .int .i64 0] 61)) w.heap.size 61 #[.int .i64 0, .string ⟨#[]⟩, .int .i64 0] := Blk.new _ _ _
  clear hq
  cases he : endN 39 (s.data.toList.drop (m + 1)) with
  | none =>
    have HF := Lib.hid (show lexRi m (lex1 KK (s.data.toList.drop m)) = .tuple #[tkV 0 ⟨#[]⟩ 0, .int .i64 (-1)] by rw [HE.out, he]; rfl)
    rw [endI_none he] at hEn
    clear HE he
    go_enter Tryd.func55, Tryd.ntmps55
    go_wp2_with (first
      | (go_at_call 87; refine (specLetter _ _).mono ?_; rintro e w' ⟨rfl, rfl⟩) | (go_at_call 89; refine (specDigit _ _).mono ?_; rintro e w' ⟨rfl, rfl⟩)
      | (go_at_call 99; refine (hEn _).mono ?_; rintro e w1 ⟨rfl, hb1⟩; have hR1 := hR0.kept hb1; have hbb : Below w.heap.size w w1 := Below.trans (by repeat (first | exact Below.refl _ _ | refine Below.drew ?_ | refine Below.setCell ?_ (by (try simp); try omega) _ | refine Below.alloc ?_ (by (try simp); try omega) _)) (hb1.mono (by simp)); have c0 := hR1.cell 0; have c1 := hR1.cell 1; have c2 := hR1.cell 2; have f0 := hR1.frozen 0; have f1 := hR1.frozen 1; have f2 := hR1.frozen 2; have hRl := hR1.lt; simp at c0 c1 c2))
    refine bodyPost_ret (v := .tuple #[tkV 0 ⟨#[]⟩ 0, .int .i64 (-1)]) (by simp [results, Tryd.results55, go_sem, c0, c1, c2, tkV]) rfl ⟨ret_v HF.out.symm, ?_⟩
    repeat (first | exact hbb | refine Below.drew ?_ | refine Below.setCell ?_ (by (try simp); try omega) _ | refine Below.alloc ?_ (by (try simp); try omega) _)
  | some j =>
    have HV := Lib.hid (show lexRi m (lex1 KK (s.data.toList.drop m)) = lexRi m (lexC KK (s.data.toList.drop m) j) by rw [HE.out, he]; rfl)
    have hle := end_le he h
    rw [endI_some he] at hEn
    obtain ⟨k1, hk1⟩ : ∃ x, x = m + 1 + j := ⟨_, rfl⟩
    have e1 : (m : Int) + 1 + (j : Int) = (k1 : Int) := by omega
    rw [e1] at hEn
    obtain ⟨X, hX⟩ : ∃ X, X = s.extract m k1 := ⟨_, rfl⟩
    have hXs : X.size ≤ 1048576 := by rw [hX, ByteArray.size_extract]; omega
    have hXl : X.data.toList = (s.data.toList.drop m).take (j + 1) := by rw [hX, hk1, n_take]
    have hXX : s.extract m k1 = X := hX.symm
    have hk1s : k1 ≤ s.size := by omega
    have hk1m : m ≤ k1 := by omega
    have hk2 : m + (j + 1) = k1 := by omega
    obtain ⟨u, hu⟩ : ∃ u, u = ucC (unqL 39 ((s.data.toList.drop m).take (j + 1))) := ⟨_, rfl⟩
    have HW := Lib.hid (show lexRi m (lex1 KK (s.data.toList.drop m)) = if u.2 = true then .tuple #[tkV 5 (mkT (csetL u.1.1 u.1.2)) 0, .int .i64 (k1 : Int)] else .tuple #[tkV 0 ⟨#[]⟩ 0, .int .i64 (-1)] by
      rw [HV.out, lexRi_C, hu, hk2])
    have hU : ∀ W : World, Calls Tryd.prog 101 #[.string X] W fun e w' => e = .returned (.tuple #[cs u.1.1 u.1.2, .bool u.2]) ∧ Below W.heap.size W w' := fun W => by
      have := specUnquoteCset X hXs W
      rw [hXl, ← hu] at this
      exact this
    obtain ⟨⟨a, b⟩, q⟩ := u
    have hC : ∀ W : World, Calls Tryd.prog 102 #[cs a b] W fun e w' => e = .returned (.string (mkT (csetL a b))) ∧ Below W.heap.size W w' := fun W => specCsetText a b W
    generalize mkT (csetL a b) = T at hC HW
    clear HV hX hXl hu hk1 HE hk2 he e1
    cases q with
    | false =>
      have HF := Lib.hid (show lexRi m (lex1 KK (s.data.toList.drop m)) = .tuple #[tkV 0 ⟨#[]⟩ 0, .int .i64 (-1)] by rw [HW.out]; rfl)
      clear HW hC
      go_enter Tryd.func55, Tryd.ntmps55
      go_wp2_with (first
          | (go_at_call 87; refine (specLetter _ _).mono ?_; rintro e w' ⟨rfl, rfl⟩) | (go_at_call 89; refine (specDigit _ _).mono ?_; rintro e w' ⟨rfl, rfl⟩)
          | (go_at_call 99; refine (hEn _).mono ?_; rintro e w1 ⟨rfl, hb1⟩; have hR1 := hR0.kept hb1; have hbb : Below w.heap.size w w1 := Below.trans (by repeat (first | exact Below.refl _ _ | refine Below.drew ?_ | refine Below.setCell ?_ (by (try simp); try omega) _ | refine Below.alloc ?_ (by (try simp); try omega) _)) (hb1.mono (by simp)); have c0 := hR1.cell 0; have c1 := hR1.cell 1; have c2 := hR1.cell 2; have f0 := hR1.frozen 0; have f1 := hR1.frozen 1; have f2 := hR1.frozen 2; have hRl := hR1.lt; simp at c0 c1 c2)
          | (go_at_call 101; refine (hU _).mono ?_; rintro e w2 ⟨rfl, hb2⟩; have hR2 := hR1.kept hb2; have hbb := hbb.trans (hb2.mono hbb.size); have c0 := hR2.cell 0; have c1 := hR2.cell 1; have c2 := hR2.cell 2; have f0 := hR2.frozen 0; have f1 := hR2.frozen 1; have f2 := hR2.frozen 2; have hRl := hR2.lt; simp at c0 c1 c2))
      refine bodyPost_ret (v := .tuple #[tkV 0 ⟨#[]⟩ 0, .int .i64 (-1)]) (by simp [results, Tryd.results55, go_sem, c0, c1, c2, tkV, hRl]) rfl ⟨ret_v HF.out.symm, ?_⟩
      repeat (first | exact hbb | refine Below.drew ?_ | refine Below.setCell ?_ (by (try simp); try omega) _ | refine Below.alloc ?_ (by (try simp); try omega) _)
    | true =>
      have HF := Lib.hid (show lexRi m (lex1 KK (s.data.toList.drop m)) = .tuple #[tkV 5 T 0, .int .i64 (k1 : Int)] by rw [HW.out]; rfl)
      clear HW
      go_enter Tryd.func55, Tryd.ntmps55
      go_wp2_with (first
          | (go_at_call 87; refine (specLetter _ _).mono ?_; rintro e w' ⟨rfl, rfl⟩) | (go_at_call 89; refine (specDigit _ _).mono ?_; rintro e w' ⟨rfl, rfl⟩)
          | (go_at_call 99; refine (hEn _).mono ?_; rintro e w1 ⟨rfl, hb1⟩; have hR1 := hR0.kept hb1; have hbb : Below w.heap.size w w1 := Below.trans (by repeat (first | exact Below.refl _ _ | refine Below.drew ?_ | refine Below.setCell ?_ (by (try simp); try omega) _ | refine Below.alloc ?_ (by (try simp); try omega) _)) (hb1.mono (by simp)); have c0 := hR1.cell 0; have c1 := hR1.cell 1; have c2 := hR1.cell 2; have f0 := hR1.frozen 0; have f1 := hR1.frozen 1; have f2 := hR1.frozen 2; have hRl := hR1.lt; simp at c0 c1 c2)
          | (go_at_call 101; refine (hU _).mono ?_; rintro e w2 ⟨rfl, hb2⟩; have hR2 := hR1.kept hb2; have hbb := hbb.trans (hb2.mono hbb.size); have c0 := hR2.cell 0; have c1 := hR2.cell 1; have c2 := hR2.cell 2; have f0 := hR2.frozen 0; have f1 := hR2.frozen 1; have f2 := hR2.frozen 2; have hRl := hR2.lt; simp at c0 c1 c2)
          | (go_at_call 102; refine (hC _).mono ?_; rintro e w3 ⟨rfl, hb3⟩; have hR3 := (hR2.alloc _).kept hb3; have hbb := Below.trans (by repeat (first | exact hbb | refine Below.drew ?_ | refine Below.setCell ?_ (by (try simp); try omega) _ | refine Below.alloc ?_ (by (try simp); try omega) _) : Below w.heap.size w _) (hb3.mono (by have := hbb.size; simp; omega)); have c0 := hR3.cell 0; have c1 := hR3.cell 1; have c2 := hR3.cell 2; have f0 := hR3.frozen 0; have f1 := hR3.frozen 1; have f2 := hR3.frozen 2; have hRl := hR3.lt; simp at c0 c1 c2))
      refine bodyPost_ret (v := .tuple #[tkV 5 T 0, .int .i64 (k1 : Int)]) (by simp [results, Tryd.results55, go_sem, c0, c1, c2, tkV]) rfl ⟨ret_v HF.out.symm, ?_⟩
      repeat (first | exact hbb | refine Below.drew ?_ | refine Below.setCell ?_ (by (try simp); try omega) _ | refine Below.alloc ?_ (by (try simp); try omega) _)
set_option maxRecDepth 20000 in
set_option maxHeartbeats 8000000 in
theorem specOne_kw (s : ByteArray) (m : Nat) (h : m < s.size) (hs : s.size ≤ 6000) (hq : s[m] = 38) (h1 : m + 1 < s.size) (hl1 : letB s[m + 1] = true) (w : World) :
    Calls Tryd.prog 55 #[.string s, .int .i64 (m : Int)] w fun e w' => e = .returned (lexRi m (lex1 KK (s.data.toList.drop m))) ∧ Below w.heap.size w w' := by
  have HE := Lib.hid (n_kw h hq h1 hl1)
  have hl : letB s[m] = false := by rw [hq]; decide
  have hd : digB s[m] = false := by rw [hq]; decide
  have hb8 := byte_bd s[m]
  have b34 : ((s[m].toNat : Int) == 34) = false := by rw [hq]; rfl
  have b39 : ((s[m].toNat : Int) == 39) = false := by rw [hq]; rfl
  have b38 : ((s[m].toNat : Int) == 38) = true := by rw [hq]; rfl
  have h1E : m + 2 ≤ endOf letB s (m + 1) := by rw [eo_one h1 hl1]; exact eo_ge _ _ _
  have hES := eo_le (p := letB) (s := s) (i := m + 1) (by omega)
  have HIn := Lib.hid (fun n (ha : m + 1 ≤ n) (h : n < endOf letB s (m + 1)) => eo_in (p := letB) (s := s) ha h)
  have HSt := Lib.hid (fun h => eo_stop (p := letB) (s := s) (i := m + 1) h)
  have HX := Lib.hid (n_kext s m)
  have HLn := Lib.hid (n_klen s m)
  have im : (m : Int) < (s.size : Int) := by omega
  obtain ⟨m1, hm1⟩ : ∃ x, x = m + 1 := ⟨_, rfl⟩
  have em1 : (m : Int) + 1 = (m1 : Int) := by omega
  rw [← hm1] at h1E hES HIn HSt HX HLn
  have h1' : m1 < s.size := by omega
  have hl1' : letB s[m1] = true := by subst hm1; exact hl1
  clear hl1
  have im1 : (m1 : Int) < (s.size : Int) := by omega
  have hb81 := byte_bd s[m1]
  have hm1m : m1 ≤ m + 1 := by omega
  have hm1m' : m + 1 ≤ m1 := by omega
  have hR0 : Blk (w.alloc (.cells #[.int .i64 0, .string ⟨#[]⟩, .int .i64 0] 61)) w.heap.size 61 #[.int .i64 0, .string ⟨#[]⟩, .int .i64 0] := Blk.new _ _ _
  obtain ⟨E, hE⟩ : ∃ E, E = endOf letB s m1 := ⟨_, rfl⟩
  rw [← hE] at h1E hES
  have HEE := Lib.hid hE
  have HM1 := Lib.hid hm1
  clear hE hq hm1 h1
  go_enter Tryd.func55, Tryd.ntmps55
  go_wp2_with (first
    | (go_at_call 87; refine (specLetter _ _).mono ?_; rintro e w' ⟨rfl, rfl⟩) | (go_at_call 89; refine (specDigit _ _).mono ?_; rintro e w' ⟨rfl, rfl⟩))
  go_loop [7] (fun i => ∃ n : Nat, i = .int .i64 n ∧ m1 ≤ n ∧ n ≤ E) (fun i => E - (intOf i).toNat)
  case atStart => exact ⟨m1, by go_num, by omega, by omega⟩
  case round =>
    obtain ⟨n, rfl, hn1, hn⟩ := hrel
    by_cases hlt : n < E
    · obtain ⟨hns, hp⟩ := HIn.out n hn1 (by rw [← HEE.out]; exact hlt)
      have i0 : (n : Int) < (s.size : Int) := by omega
      have hn8 := byte_bd s[n]
      go_wp2_with (first
        | (go_at_call 87; refine (specLetter _ _).mono ?_; rintro e w' ⟨rfl, rfl⟩) | (go_at_call 89; refine (specDigit _ _).mono ?_; rintro e w' ⟨rfl, rfl⟩))
      go_round
      case rel => exact ⟨n + 1, by go_num, by omega, by omega⟩
      case measure => simp [intOf]; omega
    · obtain rfl : n = E := by omega
      obtain ⟨X, hX⟩ : ∃ X, X = s.extract m1 n := ⟨_, rfl⟩
      have HV := Lib.hid (show lexRi m (lex1 KK (s.data.toList.drop m)) = if Lib.containsS zIsKeyword X = true then .tuple #[tkV 6 X 0, .int .i64 (n : Int)] else .tuple #[tkV 0 ⟨#[]⟩ 0, .int .i64 (-1)] by
        rw [HE.out, ← HM1.out, lexRi_K, hX, HEE.out, HX.out, HLn.out])
      have hKw := fun (W : World) => specIsKeyword X W
      obtain ⟨r1, hr1⟩ : ∃ r, r = Lib.containsS zIsKeyword X := ⟨_, rfl⟩
      rw [← hr1] at HV
      rw [← hr1] at hKw
      have hcase : ¬ n < s.size ∨ ∃ h : n < s.size, letB s[n] = false := by
        rcases Nat.lt_or_ge n s.size with h | h
        · have h2 : endOf letB s m1 < s.size := by rw [← HEE.out]; exact h
          have h3 := HSt.out h2
          simp only [← HEE.out] at h3
          exact .inr ⟨h, h3⟩
        · exact .inl (by omega)
      have hXX : s.extract m1 n = X := hX.symm
      clear hX hr1 hlt
      rcases hcase with g1 | ⟨g1, g2⟩
      all_goals
        cases r1 with
        | true =>
          have HF := Lib.hid (show lexRi m (lex1 KK (s.data.toList.drop m)) = .tuple #[tkV 6 X 0, .int .i64 (n : Int)] by rw [HV.out]; rfl)
          clear HV
          go_wp2_with (first
            | (go_at_call 87; refine (specLetter _ _).mono ?_; rintro e w' ⟨rfl, rfl⟩) | (go_at_call 89; refine (specDigit _ _).mono ?_; rintro e w' ⟨rfl, rfl⟩)
            | (go_at_call 103; refine (hKw _).mono ?_; rintro e w1 ⟨rfl, hb1⟩; have hR1 := hR0.kept hb1; have hbb : Below w.heap.size w w1 := Below.trans (by repeat (first | exact Below.refl _ _ | refine Below.drew ?_ | refine Below.setCell ?_ (by (try simp); try omega) _ | refine Below.alloc ?_ (by (try simp); try omega) _)) (hb1.mono (by simp)); have c0 := hR1.cell 0; have c1 := hR1.cell 1; have c2 := hR1.cell 2; have f0 := hR1.frozen 0; have f1 := hR1.frozen 1; have f2 := hR1.frozen 2; have hRl := hR1.lt; simp at c0 c1 c2))
          refine bodyPost_ret (v := .tuple #[tkV 6 X 0, .int .i64 (n : Int)]) (by simp [results, Tryd.results55, go_sem, c0, c1, c2, tkV]) rfl ⟨ret_v HF.out.symm, ?_⟩
          repeat (first | exact hbb | refine Below.drew ?_ | refine Below.setCell ?_ (by (try simp); try omega) _ | refine Below.alloc ?_ (by (try simp); try omega) _)
        | false =>
          have HF := Lib.hid (show lexRi m (lex1 KK (s.data.toList.drop m)) = .tuple #[tkV 0 ⟨#[]⟩ 0, .int .i64 (-1)] by rw [HV.out]; rfl)
          clear HV
          go_wp2_with (first
            | (go_at_call 87; refine (specLetter _ _).mono ?_; rintro e w' ⟨rfl, rfl⟩) | (go_at_call 89; refine (specDigit _ _).mono ?_; rintro e w' ⟨rfl, rfl⟩)
            | (go_at_call 103; refine (hKw _).mono ?_; rintro e w1 ⟨rfl, hb1⟩; have hR1 := hR0.kept hb1; have hbb : Below w.heap.size w w1 := Below.trans (by repeat (first | exact Below.refl _ _ | refine Below.drew ?_ | refine Below.setCell ?_ (by (try simp); try omega) _ | refine Below.alloc ?_ (by (try simp); try omega) _)) (hb1.mono (by simp)); have c0 := hR1.cell 0; have c1 := hR1.cell 1; have c2 := hR1.cell 2; have f0 := hR1.frozen 0; have f1 := hR1.frozen 1; have f2 := hR1.frozen 2; have hRl := hR1.lt; simp at c0 c1 c2))
          refine bodyPost_ret (v := .tuple #[tkV 0 ⟨#[]⟩ 0, .int .i64 (-1)]) (by simp [results, Tryd.results55, go_sem, c0, c1, c2, tkV]) rfl ⟨ret_v HF.out.symm, ?_⟩
          repeat (first | exact hbb | refine Below.drew ?_ | refine Below.setCell ?_ (by (try simp); try omega) _ | refine Below.alloc ?_ (by (try simp); try omega) _)
set_option maxRecDepth 20000 in
set_option maxHeartbeats 8000000 in
theorem specOne_op (s : ByteArray) (m : Nat) (h : m < s.size) (hs : s.size ≤ 6000) (hl : letB s[m] = false) (hd : digB s[m] = false) (h34 : s[m] ≠ 34) (h39 : s[m] ≠ 39) (h38 : s[m] ≠ 38 ∨ s.size ≤ m + 1 ∨ ∃ h : m + 1 < s.size, letB s[m + 1] = false) (w : World) :
    Calls Tryd.prog 55 #[.string s, .int .i64 (m : Int)] w fun e w' => e = .returned (lexRi m (lex1 KK (s.data.toList.drop m))) ∧ Below w.heap.size w w' := by
  have HE := Lib.hid (n_op h hl hd h34 h39 h38)
  have hb8 := byte_bd s[m]
  have b34 : ((s[m].toNat : Int) == 34) = false := u8F h34
  have b39 : ((s[m].toNat : Int) == 39) = false := u8F h39
  have hR0 : Blk (w.alloc (.cells #[.int .i64 0, .string ⟨#[]⟩, .int .i64 0] 61)) w.heap.size 61 #[.int .i64 0, .string ⟨#[]⟩, .int .i64 0] := Blk.new _ _ _
  have hways : ((s[m].toNat : Int) == 38) = false ∨ (((s[m].toNat : Int) == 38) = true ∧ s.size ≤ m + 1) ∨ (((s[m].toNat : Int) == 38) = true ∧ ∃ h : m + 1 < s.size, letB s[m + 1] = false) := by
    by_cases e : s[m] = 38
    · rcases h38 with h | h | h
      · exact absurd e h
      · exact .inr (.inl ⟨u8T e, h⟩)
      · exact .inr (.inr ⟨u8T e, h⟩)
    · exact .inl (u8F e)
  have HP := Lib.hid (fun x => n_pre (s := s) (m := m) (by omega) x)
  have im : (m : Int) < (s.size : Int) := by omega
  obtain ⟨m1, hm1⟩ : ∃ x, x = m + 1 := ⟨_, rfl⟩
  have em1 : (m : Int) + 1 = (m1 : Int) := by omega
  obtain ⟨dz, hdz⟩ : ∃ x, x = s.size - m := ⟨_, rfl⟩
  have edz : (s.size : Int) - (m : Int) = (dz : Int) := by omega
  rw [← hdz] at HP
  have hdm : m + dz ≤ s.size := by omega
  have hdm' : s.size ≤ m + dz := by omega
  rw [← hm1] at hways
  have hF := specOps (w.alloc (.cells #[.int .i64 0, .string ⟨#[]⟩, .int .i64 0] 61))
  have HC : Hid (∀ j (h : j < zOps.length), ((w.alloc (.cells #[.int .i64 0, .string ⟨#[]⟩, .int .i64 0] 61)).alloc (strsO zOps 9)).cell? ⟨w.heap.size + 1, 0 + j, none⟩ = some (.string zOps[j])) := Lib.hid fun j h => by
    have := strs_cell (w.alloc (.cells #[.int .i64 0, .string ⟨#[]⟩, .int .i64 0] 61)) zOps 9 j h
    rw [show (w.alloc (.cells #[.int .i64 0, .string ⟨#[]⟩, .int .i64 0] 61)).heap.size = w.heap.size + 1 by simp] at this
    exact this
  have hb0 : Below w.heap.size w ((w.alloc (.cells #[.int .i64 0, .string ⟨#[]⟩, .int .i64 0] 61)).alloc (strsO zOps 9)) := by repeat (first | exact Below.refl _ _ | refine Below.drew ?_ | refine Below.setCell ?_ (by (try simp); try omega) _ | refine Below.alloc ?_ (by (try simp); try omega) _)
  have hR1 := hR0.alloc (strsO zOps 9)
  have hlt1 : w.heap.size < (w.alloc (.cells #[.int .i64 0, .string ⟨#[]⟩, .int .i64 0] 61)).heap.size := by simp
  generalize hW1 : (w.alloc (.cells #[.int .i64 0, .string ⟨#[]⟩, .int .i64 0] 61)).alloc (strsO zOps 9) = W1 at hF HC hb0 hR1
  have HW1 := Lib.hid hW1
  have HL := Lib.hid ops_len
  clear hW1 hdz h34 h39 h38 hm1
  have hzz := hb0.size
  rcases hways with b38 | ⟨b38, g1⟩ | ⟨b38, g1, g2⟩
  all_goals
    (try have g3 : (m1 : Int) < (s.size : Int) := by omega)
    go_enter Tryd.func55, Tryd.ntmps55
    go_wp2_with (first
      | (go_at_call 87; refine (specLetter _ _).mono ?_; rintro e w' ⟨rfl, rfl⟩) | (go_at_call 89; refine (specDigit _ _).mono ?_; rintro e w' ⟨rfl, rfl⟩)
      | (go_at_call 104; refine hF.mono ?_; rintro e w' ⟨rfl, rfl⟩))
    go_loopw [16] (fun i wr => ∃ j : Nat, i = .int .i64 j ∧ Hid (opB (s.data.toList.drop m) (zOps.take j) = none) ∧ j ≤ 62 ∧ Below W1.heap.size W1 wr) (fun i _ => 62 - (intOf i).toNat)
    case atStart => exact ⟨0, rfl, Lib.hid rfl, by omega, Below.refl _ _⟩
    case round =>
      obtain ⟨j, rfl, HM, hj, hbr⟩ := hrel
      have hR2 := hR1.kept hbr
      have c0 := hR2.cell 0
      have c1 := hR2.cell 1
      have c2 := hR2.cell 2
      have f0 := hR2.frozen 0
      have f1 := hR2.frozen 1
      have f2 := hR2.frozen 2
      have hRl := hR2.lt
      simp at c0 c1 c2
      have hbb : Below w.heap.size w wr := hb0.trans (hbr.mono hzz)
      have hzr := hbb.size
      by_cases hlt : j < 62
      · have hlt' : j < zOps.length := by rw [HL.out]; exact hlt
        have k0 := kc1 hbr (HC.out j hlt')
        rw [Nat.zero_add] at k0
        have HS := Lib.hid (show zOps[j].size ≤ 5 from ops_small _ (List.getElem_mem hlt'))
        have HPx := Lib.hid (HP.out zOps[j])
        obtain ⟨x, hx⟩ : ∃ x, x = zOps[j] := ⟨_, rfl⟩
        rw [← hx] at k0 HPx
        have hxs : x.size ≤ 5 := by rw [hx]; exact HS.out
        have i0 : (j : Int) < (62 : Int) := by omega
        obtain ⟨mx, hmx⟩ : ∃ q, q = m + x.size := ⟨_, rfl⟩
        have emx : (m : Int) + (x.size : Int) = (mx : Int) := by omega
        rw [← hmx] at HPx
        have wmx : IntKind.i64.wrap ((mx : Nat) : Int) = (mx : Int) := i64_in' (by omega)
        by_cases hd1 : x.size ≤ dz
        · have d1 : decide ((x.size : Int) ≤ (dz : Int)) = true := decide_eq_true (by omega)
          have hmxs : mx ≤ s.size := by omega
          have hmxm : m ≤ mx := by omega
          cases hpe : ((s.extract m mx).toList == x.toList) with
          | true =>
            have HF := Lib.hid (show lexRi m (lex1 KK (s.data.toList.drop m)) = .tuple #[tkV 7 x 0, .int .i64 (mx : Int)] by
              have hp : Lib.hasPrefix (s.data.toList.drop m) x.data.toList = true := by rw [HPx.out, decide_eq_true hd1, hpe]; rfl
              have h1 : opB (s.data.toList.drop m) (zOps.take (j + 1)) = some x := by rw [take_ops hlt', ← hx]; exact opB_new HM.out hp
              rw [HE.out, lexRi_O (opB_all h1), hmx])
            clear HM hx hmx HPx
            go_wp2_with fail
            go_quiet (fail)
            go_wp2_with fail
            go_region_held3 (fun w' => w'.cell? ⟨w.heap.size + 1, j, none⟩ = some (.string x)) (go_keep) (fail)
            all_goals
              go_wp2_with fail
              refine bodyPost_ret (v := .tuple #[tkV 7 x 0, .int .i64 (mx : Int)]) (by simp [results, Tryd.results55, go_sem, c0, c1, c2, tkV]) rfl ⟨ret_v HF.out.symm, ?_⟩
              repeat (first | exact hbb | exact below_drewN hbb _ | refine Below.drew ?_ | refine Below.setCell ?_ (by (try simp); try omega) _)
          | false =>
            have HN := Lib.hid (show opB (s.data.toList.drop m) (zOps.take (j + 1)) = none by
              have hp : Lib.hasPrefix (s.data.toList.drop m) x.data.toList = false := by rw [HPx.out, hpe]; simp
              rw [take_ops hlt', ← hx]; exact opB_no HM.out hp)
            clear HM hx hmx HPx
            go_wp2_with fail
            go_quiet (fail)
            go_wp2_with fail
            go_roundw
            case rel => exact ⟨j + 1, by go_num, HN, by omega, below_drewN hbr _⟩
            case measure => simp [intOf]; omega
        · have d1 : decide ((x.size : Int) ≤ (dz : Int)) = false := decide_eq_false (by omega)
          have HN := Lib.hid (show opB (s.data.toList.drop m) (zOps.take (j + 1)) = none by
            have hp : Lib.hasPrefix (s.data.toList.drop m) x.data.toList = false := by rw [HPx.out, decide_eq_false hd1]; rfl
            rw [take_ops hlt', ← hx]; exact opB_no HM.out hp)
          clear HM hx hmx HPx
          go_wp2_with fail
          go_quiet (fail)
          go_wp2_with fail
          go_roundw
          case rel => exact ⟨j + 1, by go_num, HN, by omega, below_drewN hbr _⟩
          case measure => simp [intOf]; omega
      · obtain rfl : j = 62 := by omega
        have HF := Lib.hid (show lexRi m (lex1 KK (s.data.toList.drop m)) = .tuple #[tkV 0 ⟨#[]⟩ 0, .int .i64 (-1)] by
          rw [HE.out, lexRi_O0]
          have := HM.out
          rw [← HL.out, List.take_length] at this
          exact this)
        clear HM
        go_wp2_with fail
        refine bodyPost_ret (v := .tuple #[tkV 0 ⟨#[]⟩ 0, .int .i64 (-1)]) (by simp [results, Tryd.results55, go_sem, c0, c1, c2, tkV]) rfl ⟨ret_v HF.out.symm, ?_⟩
        repeat (first | exact hbb | refine Below.drew ?_ | refine Below.setCell ?_ (by (try simp); try omega) _ | refine Below.alloc ?_ (by (try simp); try omega) _)
/-- One step of the reference. -/
theorem specOne (s : ByteArray) (m : Nat) (h : m < s.size) (hs : s.size ≤ 6000) (w : World) :
    Calls Tryd.prog 55 #[.string s, .int .i64 (m : Int)] w fun e w' => LexRi m (lex1 KK (s.data.toList.drop m)) e ∧ Below w.heap.size w w' := by
  refine Calls.mono ?_ fun e w' (h : e = .returned (lexRi m (lex1 KK (s.data.toList.drop m))) ∧ Below w.heap.size w w') => ⟨by rw [h.1]; exact LexRi.of _ _, h.2⟩
  cases hl : letB s[m] with
  | true => exact specOne_let s m h hs hl w
  | false =>
    cases hd : digB s[m] with
    | true => exact specOne_dig s m h hs hl hd w
    | false =>
      by_cases h34 : s[m] = 34
      · exact specOne_quo s m h hs h34 w
      · by_cases h39 : s[m] = 39
        · exact specOne_quc s m h hs h39 w
        · by_cases h38 : s[m] = 38
          · rcases Nat.lt_or_ge (m + 1) s.size with h1 | h1
            · cases hl1 : letB s[m + 1] with
              | true => exact specOne_kw s m h hs h38 h1 hl1 w
              | false => exact specOne_op s m h hs hl hd h34 h39 (.inr (.inr ⟨h1, hl1⟩)) w
            · exact specOne_op s m h hs hl hd h34 h39 (.inr (.inl h1)) w
          · exact specOne_op s m h hs hl hd h34 h39 (.inl h38) w
end Go.Proofs.YtanmkeoieckebaaDoor
