/- Proved here: what MapText returns, the program's (by the library's last index) and the reference's. Condition: the texts have at most 2^20 bytes each. -/
import Derived.Test.YtamdeplkkkodkaaTx
import Derived.Test.YtamdeplkkkodkaaHeld
import Derived.Lib.ConvBytes
namespace Go.Proofs.Ytamdeplkkkodkaa
open Go.RowKit

/-- The last index below k at which x stands. -/
def lastPre (f : List UInt8) (x : UInt8) : Nat → Option Nat
  | 0 => none
  | k + 1 => if f.getD k 0 = x then some k else lastPre f x k
/-- What x becomes when the first k pairs are looked at. -/
def mapAt (f t : List UInt8) (x : UInt8) : Nat → UInt8
  | 0 => x
  | k + 1 => if f.getD k 0 = x then t.getD k 0 else mapAt f t x k
theorem mapAt_last (f t : List UInt8) (x : UInt8) : ∀ k, mapAt f t x k = match lastPre f x k with | some j => t.getD j 0 | none => x
  | 0 => rfl
  | k + 1 => by
    unfold mapAt lastPre
    by_cases h : f.getD k 0 = x
    · simp only [h, if_true]
    · simp only [h, if_false]; exact mapAt_last f t x k
theorem lastPre_lt (f : List UInt8) (x : UInt8) : ∀ k j, lastPre f x k = some j → j < k
  | 0, j, h => by cases h
  | k + 1, j, h => by
    unfold lastPre at h
    split at h
    · cases h; omega
    · have := lastPre_lt f x k j h; omega
def mapL (f t l : List UInt8) : List UInt8 := l.map fun x => mapAt f t x f.length
theorem mapL_snoc (f t l : List UInt8) (x : UInt8) : mapL f t (l ++ [x]) = mapL f t l ++ [mapAt f t x f.length] := by simp [mapL]
theorem getD_at (s : ByteArray) (k : Nat) (h : k < s.size) : s.data.toList.getD k 0 = s[k] := by
  have h' : k < s.data.toList.length := by simpa using h
  rw [List.getD_eq_getElem?_getD, List.getElem?_eq_getElem h']
  rfl
theorem eqB {b c : UInt8} (h : b = c) : (b.toNat == c.toNat) = true := by subst h; simp
theorem neB {b c : UInt8} (h : ¬ b = c) : (b.toNat == c.toNat) = false := by
  rw [beq_eq_false_iff_ne]; intro e; exact h (UInt8.toNat_inj.1 e)
theorem take_snoc2 (s : ByteArray) (k : Nat) (h : k < s.size) : s.data.toList.take (k + 1) = s.data.toList.take k ++ [s[k]] := by
  rw [List.take_succ_eq_append_getElem (by simpa using h)]; rfl
theorem ret_st {a c : ByteArray} {b d : Bool} (h : (a, b) = (c, d)) : Ending.returned (.tuple #[.string a, .bool b]) = .returned (.tuple #[.string c, .bool d]) := by cases h; rfl

set_option maxHeartbeats 4000000 in
set_option maxRecDepth 10000 in
theorem specMap (s f t : ByteArray) (hs : s.size ≤ 1048576) (hf : f.size ≤ 1048576) (hft : f.size = t.size) (w : World) : Calls Try.prog 20 #[.string s, .string f, .string t] w fun e w' => e = .returned (.tuple #[txt (mapL f.data.toList t.data.toList s.data.toList), .bool true]) ∧ Below w.heap.size w w' := by
  have hbf : ((f.size : Int) == (t.size : Int)) = true := by rw [hft]; simp
  have hft1 : f.size ≤ t.size := by omega
  have hft2 : t.size ≤ f.size := by omega
  have hbne : ((f.size : Int) != (t.size : Int)) = false := by rw [hft]; simp
  have hlf : f.data.toList.length = f.size := by simp
  have HLF := Lib.hid hlf
  clear hft hlf
  go_enter Try.func20, Try.ntmps20
  go_wp2
  go_loopw [8, 9, 10, 11] (fun v i _ _ wr => ∃ m : Nat, m ≤ s.size ∧ i = .int .i64 m ∧ Buf wr w.heap.size v (mapL f.data.toList t.data.toList (s.data.toList.take m)) ∧ Below w.heap.size w wr)
    (fun _ i _ _ _ => s.size - (intOf i).toNat)
  case atStart => exact ⟨0, by omega, rfl, Buf.empty w _ (Nat.le_refl _), (Below.refl _ _).alloc (Nat.le_refl _) _⟩
  case round =>
    obtain ⟨m, hm, rfl, hown, hb⟩ := hrel
    have hsz := hb.size
    have hl : (mapL f.data.toList t.data.toList (s.data.toList.take m)).length ≤ s.size := by simp [mapL]; omega
    by_cases h0 : m = s.size
    · subst h0
      have e1 : s.data.toList.take s.size = s.data.toList := List.take_of_length_le (by simp)
      rw [e1] at hown
      have hcv := run_text hown
      clear e1 hl
      go_wp2
      go_ret2
      exact ⟨rfl, hb⟩
    · have hlt : m < s.size := by omega
      have i1 : (m : Int) < (s.size : Int) := by omega
      have i0 : (0 : Int) ≤ (m : Int) := by omega
      obtain ⟨wo, rfl⟩ : ∃ wo : World, wo = wr := ⟨_, rfl⟩
      go_wp2
      go_loopw [10, 11] (fun b j wr => ∃ k : Nat, k ≤ f.size ∧ j = .int .i64 k ∧ b = .int .u8 ((mapAt f.data.toList t.data.toList s[m] k).toNat : Int) ∧ Below wo.heap.size wo wr)
        (fun _ j _ => f.size - (intOf j).toNat)
      case atStart => exact ⟨0, by omega, rfl, rfl, Below.refl _ _⟩
      case round =>
        obtain ⟨k, hk, rfl, rfl, hb2⟩ := hrel
        have hsz2 := hb2.size
        by_cases hkf : k = f.size
        · have hown2 := hown.kept hb2
          have e2 : k = f.data.toList.length := by rw [HLF.out]; exact hkf
          have HS := Lib.hid (mapL_snoc f.data.toList t.data.toList (s.data.toList.take m) s[m])
          rw [← e2, ← take_snoc2 s m hlt] at HS
          have hkf2 : f.size ≤ k := by omega
          clear hkf e2
          go_wp2_with (at_builtin; refine wpList_append_lit rfl _ _ rfl rfl hown2 1 rfl (by simp) [mapAt f.data.toList t.data.toList s[m] k] rfl rfl (by omega) (by omega) ?_; intro v1 w1 hown1 hb1)
          go_roundw
          case rel => exact ⟨m + 1, by omega, by go_num, by rw [HS.out]; exact hown1, hb.trans ((hb2.mono hsz).trans hb1)⟩
          case measure => simp [intOf]; omega
        · have hkl : k < f.size := by omega
          have j1 : (k : Int) < (f.size : Int) := by omega
          have j2 : (k : Int) < (t.size : Int) := by omega
          have j0 : (0 : Int) ≤ (k : Int) := by omega
          by_cases hx : f[k] = s[m]
          · have bx := eqB hx
            have HM : Hid (mapAt f.data.toList t.data.toList s[m] (k + 1) = t[k]) := Lib.hid (by unfold mapAt; rw [getD_at f k hkl, if_pos hx, getD_at])
            clear hx hkf
            go_wp2
            go_quiet (fail)
            go_wp2
            go_roundw
            case rel => exact ⟨k + 1, by omega, by go_num, by rw [HM.out], below_drewN hb2 _⟩
            case measure => simp [intOf]; omega
          · have bx := neB hx
            have HM : Hid (mapAt f.data.toList t.data.toList s[m] (k + 1) = mapAt f.data.toList t.data.toList s[m] k) := Lib.hid (by rw [mapAt, getD_at f k hkl, if_neg hx])
            clear hx hkf
            go_wp2
            go_quiet (fail)
            go_wp2
            go_roundw
            case rel => exact ⟨k + 1, by omega, by go_num, by rw [HM.out], below_drewN hb2 _⟩
            case measure => simp [intOf]; omega
/-- The last index as Go gives it. -/
def lastI (f : List UInt8) (x : UInt8) : Int := match lastPre f x f.length with | some j => (j : Int) | none => -1
set_option maxHeartbeats 1000000 in
theorem bytealgLast (f : ByteArray) (hf : f.size ≤ 1048576) (x : UInt8) (w : World) : Calls Try.prog 58 #[.string f, .int .u8 (x.toNat : Int)] w fun e w' => e = .returned (.int .i64 (lastI f.data.toList x)) ∧ w = w' := by
  go_enter Try.func58, Try.ntmps58
  go_wp2
  go_loop [5] (fun i => ∃ k : Nat, k ≤ f.size ∧ i = .int .i64 ((k : Int) - 1) ∧ Hid (lastPre f.data.toList x f.data.toList.length = lastPre f.data.toList x k))
    (fun i => (intOf i + 1).toNat)
  case atStart => exact ⟨f.size, by omega, rfl, Lib.hid (by simp)⟩
  case round =>
    obtain ⟨k, hk, rfl, HL⟩ := hrel
    by_cases h0 : k = 0
    · subst h0
      have HR : Hid (lastI f.data.toList x = -1) := Lib.hid (by unfold lastI; rw [HL.out]; rfl)
      go_wp2
      go_ret
      exact ⟨by rw [HR.out]; rfl, rfl⟩
    · obtain ⟨j, rfl⟩ : ∃ j, k = j + 1 := ⟨k - 1, by omega⟩
      have i1 : (j : Int) < (f.size : Int) := by omega
      by_cases hx : f[j] = x
      · have bx := eqB hx
        have HR : Hid (lastI f.data.toList x = (j : Int)) := Lib.hid (by unfold lastI; rw [HL.out, lastPre, getD_at f j (by omega), if_pos hx])
        clear hx h0
        go_wp2
        go_ret
        exact ⟨by rw [HR.out]; rfl, rfl⟩
      · have bx := neB hx
        have HR : Hid (lastPre f.data.toList x f.data.toList.length = lastPre f.data.toList x j) := Lib.hid (by rw [HL.out, lastPre, getD_at f j (by omega), if_neg hx])
        clear hx h0
        go_wp2
        go_round
        case rel => exact ⟨j, by omega, rfl, HR⟩
        case measure => simp [intOf]
theorem stringsLast (f : ByteArray) (hf : f.size ≤ 1048576) (x : UInt8) (r : Int) (h : Hid (lastI f.data.toList x = r)) (w : World) : Calls Try.prog 48 #[.string f, .int .u8 (x.toNat : Int)] w fun e w' => e = .returned (.int .i64 r) ∧ w = w' := by
  rw [← h.out]
  go_enter Try.func48, Try.ntmps48
  go_wp2_with (go_at_call 58; refine (bytealgLast f hf x _).mono ?_; rintro e w' ⟨rfl, rfl⟩)
  go_ret
  exact ⟨rfl, rfl⟩
/-- Block g holds the bytes l, not frozen. -/
def FB (w : World) (g : Nat) (l : List UInt8) : Prop := g < w.heap.size ∧ (∀ j (h : j < l.length), w.cell? ⟨g, j, none⟩ = some (.int .u8 (l[j].toNat : Int))) ∧ ∀ j, j < l.length → w.frozen? ⟨g, j, none⟩ = false
theorem FB.made (w : World) (s : ByteArray) : FB (Lib.bytesWorld w 5 s) w.heap.size s.data.toList := by
  refine ⟨by rw [Lib.bytesWorld_size]; omega, fun j h => ?_, fun j h => ?_⟩
  · have hj : j < s.size := by simpa using h
    rw [Lib.bytesWorld_cell w 5 s j hj, getD_at s j hj]
    rfl
  · have hj : j < s.size := by simpa using h
    have hs : j < (Lib.bytesCells w 5 s).size := by
      unfold Lib.bytesCells
      rw [Array.size_append, Array.size_map]
      have : j < s.data.size := hj
      omega
    simp [World.frozen?, Lib.bytesWorld_at_new]
    omega
theorem below_bytes (w : World) (s : ByteArray) : Below w.heap.size w (Lib.bytesWorld w 5 s) := by
  refine ⟨?_, ?_, ?_, by rw [Lib.bytesWorld_size]; omega, fun k hk => Lib.bytesWorld_at_old w _ s k hk⟩
  all_goals
    unfold Lib.bytesWorld World.freeze
    split <;> rfl
theorem FB.store {w : World} {g : Nat} {l : List UInt8} (h : FB w g l) (j : Nat) (hj : j < l.length) (x : UInt8) : FB (w.setCell ⟨g, j, none⟩ (.int .u8 (x.toNat : Int))) g (l.set j x) := by
  refine ⟨by have := h.1; simpa [World.setCell] using this, fun i hi => ?_, fun i hi => ?_⟩
  · have hi' : i < l.length := by simpa using hi
    by_cases e : j = i
    · subst e
      rw [World.cell?_setCell_same _ _ _ (h.2.1 j hj)]
      simp
    · rw [World.cell?_setCell_other _ _ _ _ (by intro e2; injection e2 with _ e3; exact e e3), h.2.1 i hi', List.getElem_set_ne e]
  · rw [World.frozen?_setCell]; exact h.2.2 i (by simpa using hi)
theorem run_back {w : World} {g cap n : Nat} {l : List UInt8} (h : FB w g l) (hn : l.length = n) : (convert 54 9 (.slice (some ⟨g, 0, none⟩) n cap)).run Try.prog w = .ok (.string ⟨l.toArray⟩) w := by
  subst hn
  refine run_convert_bytes_back w _ _ 5 _ cap l Try.underlying54 Try.underlying5 Try.underlying9 (fun j hj => ?_)
  have e : (⟨g, 0, none⟩ : Addr).add j = ⟨g, j, none⟩ := by unfold Addr.add; split <;> simp_all
  rw [e]
  exact h.2.1 j hj
theorem map_set (f t l : List UInt8) (m : Nat) (h : m < l.length) (y : UInt8) (hy : mapAt f t l[m] f.length = y) : (mapL f t (l.take m) ++ l.drop m).set m y = mapL f t (l.take (m + 1)) ++ l.drop (m + 1) := by
  have e : (mapL f t (l.take m)).length = m := by simp [mapL]; omega
  rw [List.set_append_right _ _ (by omega), e, Nat.sub_self, List.drop_eq_getElem_cons h, List.set_cons_zero, List.take_succ_eq_append_getElem h, mapL_snoc, hy, List.append_assoc]
  rfl
theorem map_keep (f t l : List UInt8) (m : Nat) (h : m < l.length) (hy : mapAt f t l[m] f.length = l[m]) : mapL f t (l.take m) ++ l.drop m = mapL f t (l.take (m + 1)) ++ l.drop (m + 1) := by
  rw [List.drop_eq_getElem_cons h, List.take_succ_eq_append_getElem h, mapL_snoc, hy, List.append_assoc]
  rfl
theorem map_at (f t l : List UInt8) (m : Nat) (h : m < l.length) (p : m < (mapL f t (l.take m) ++ l.drop m).length) : (mapL f t (l.take m) ++ l.drop m)[m]'p = l[m] := by
  have e : (mapL f t (l.take m)).length = m := by simp [mapL]; omega
  rw [List.getElem_append_right (by omega)]
  simp [e]
theorem map_len (f t l : List UInt8) (m : Nat) : (mapL f t (l.take m) ++ l.drop m).length = l.length := by simp [mapL]; omega

set_option maxHeartbeats 4000000 in
set_option maxRecDepth 10000 in
theorem implMap (s f t : ByteArray) (hs : s.size ≤ 1048576) (hf : f.size ≤ 1048576) (hft : f.size = t.size) (w : World) : Calls Try.prog 21 #[.string s, .string f, .string t] w fun e w' => e = .returned (.tuple #[txt (mapL f.data.toList t.data.toList s.data.toList), .bool true]) ∧ Below w.heap.size w w' := by
  have hbne : ((f.size : Int) != (t.size : Int)) = false := by rw [hft]; simp
  have hft1 : f.size ≤ t.size := by omega
  clear hft
  have hcv0 := fun W => Lib.run_convert_string_bytes (P := Try.prog) W 9 54 5 s Try.underlying9 Try.underlying54 Try.underlying5
  go_enter Try.func21, Try.ntmps21
  go_wp2
  go_loopw [9, 10, 20] (fun _ _ i wr => ∃ m : Nat, m ≤ s.size ∧ i = .int .i64 m ∧ FB wr w.heap.size (mapL f.data.toList t.data.toList (s.data.toList.take m) ++ s.data.toList.drop m) ∧ Below w.heap.size w wr)
    (fun _ _ i _ => s.size - (intOf i).toNat)
  case atStart => exact ⟨0, by omega, rfl, FB.made w s, below_bytes w s⟩
  case round =>
    obtain ⟨m, hm, rfl, hF, hb⟩ := hrel
    clear hcv0
    by_cases h0 : m = s.size
    · subst h0
      have hcv := run_back (n := s.size) (cap := grownCap w s.size 0 5) hF ((map_len _ _ _ _).trans (by simp))
      have HE : Hid (mapL f.data.toList t.data.toList (s.data.toList.take s.size) ++ s.data.toList.drop s.size = mapL f.data.toList t.data.toList s.data.toList) := Lib.hid (by rw [List.take_of_length_le (by simp), List.drop_of_length_le (by simp), List.append_nil])
      rw [HE.out] at hcv
      go_wp2
      go_ret2
      exact ⟨rfl, hb⟩
    · have hlt : m < s.size := by omega
      have hml : m < s.data.toList.length := by simpa using hlt
      have i1 : (m : Int) < (s.size : Int) := by omega
      have hlen := map_len f.data.toList t.data.toList s.data.toList m
      have hc : wr.cell? ⟨w.heap.size, m, none⟩ = some (.int .u8 (s[m].toNat : Int)) := by
        rw [hF.2.1 m (by rw [hlen]; exact hml), map_at _ _ _ _ hml]; rfl
      have hfz := hF.2.2 m (by rw [hlen]; exact hml)
      rcases hL : lastPre f.data.toList s[m] f.data.toList.length with _ | j
      · have HR : Hid (lastI f.data.toList s[m] = -1) := Lib.hid (by unfold lastI; rw [hL])
        have HK := Lib.hid (map_keep f.data.toList t.data.toList s.data.toList m hml ((mapAt_last _ _ _ _).trans (by rw [show s.data.toList[m] = s[m] from rfl, hL])))
        clear hL hlen h0
        go_wp2_with (go_at_call 48; refine (stringsLast f hf s[m] (-1) HR _).mono ?_; rintro e w' ⟨rfl, rfl⟩)
        go_roundw
        case rel => exact ⟨m + 1, by omega, by go_num, by rw [← HK.out]; exact hF, hb⟩
        case measure => simp [intOf]; omega
      · have hj := lastPre_lt _ _ _ _ hL
        have hjt : j < t.size := by have : f.data.toList.length = f.size := by simp
                                    omega
        have HR : Hid (lastI f.data.toList s[m] = (j : Int)) := Lib.hid (by unfold lastI; rw [hL])
        have HK := Lib.hid (map_set f.data.toList t.data.toList s.data.toList m hml t[j] ((mapAt_last _ _ _ _).trans (by rw [show s.data.toList[m] = s[m] from rfl, hL]; exact getD_at t j hjt)))
        have HS := Lib.hid (hF.store m (by rw [hlen]; exact hml) t[j])
        clear hL hlen h0 hj
        go_wp2_with (go_at_call 48; refine (stringsLast f hf s[m] (j : Int) HR _).mono ?_; rintro e w' ⟨rfl, rfl⟩)
        go_roundw
        case rel => exact ⟨m + 1, by omega, by go_num, by rw [← HK.out]; exact HS.out, hb.setCell (Nat.le_refl _) _⟩
        case measure => simp [intOf]; omega
end Go.Proofs.Ytamdeplkkkodkaa
