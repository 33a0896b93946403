/- Proved here: what the functions on texts return (reversal, pads). Condition: the text has at most 2^20 bytes. -/
import Derived.Test.YtnmieocbpdoicaaBuf
namespace Go.Proofs.Ytnmieocbpdoicaa
open Go.RowKit

/-- A text of a list of bytes. -/
abbrev txt (l : List UInt8) : Value := .string ⟨l.toArray⟩

theorem drop_rev (s : ByteArray) (k : Nat) (h : k < s.size) : (s.data.toList.drop k).reverse = (s.data.toList.drop (k + 1)).reverse ++ [s[k]] := by
  rw [List.drop_eq_getElem_cons (by simpa using h), List.reverse_cons]; rfl

theorem rev_set (n k : Nat) (h : k < n) (r : List UInt8) (x : UInt8) : (List.replicate (n - k) 0 ++ r).set (n - 1 - k) x = List.replicate (n - (k + 1)) 0 ++ (x :: r) := by
  obtain ⟨m, hm⟩ : ∃ m, n - k = m + 1 := ⟨n - k - 1, by omega⟩
  have e1 : n - 1 - k = m := by omega
  have e2 : n - (k + 1) = m := by omega
  rw [hm, e1, e2, List.replicate_succ', List.append_assoc, List.set_append_right _ _ (by simp)]
  simp
theorem take_rev (s : ByteArray) (k : Nat) (h : k < s.size) : (s.data.toList.take (k + 1)).reverse = s[k] :: (s.data.toList.take k).reverse := by
  rw [List.take_succ_eq_append_getElem (by simpa using h), List.reverse_append]; rfl

set_option maxHeartbeats 400000 in
theorem implReverse (s : ByteArray) (hs : s.size ≤ 1048576) (w : World) : Calls Try.prog 39 #[.string s] w fun e w' => e = .returned (txt s.data.toList.reverse) ∧ Below w.heap.size w w' := by
  have hmk := fun W => make_bytes s.size (by omega) W
  go_enter Try.func39, Try.ntmps39
  go_wp2
  go_loopw [4] (fun i wr => ∃ k : Nat, k ≤ s.size ∧ i = .int .i64 k ∧ Buf wr w.heap.size (.slice (some ⟨w.heap.size, 0, none⟩) s.size s.size) (List.replicate (s.size - k) 0 ++ (s.data.toList.take k).reverse) ∧ Below w.heap.size w wr)
    (fun i _ => s.size - (intOf i).toNat)
  case atStart => exact ⟨0, by omega, rfl, by simpa using Buf.zeros w _ s.size (Nat.le_refl _) (by unfold maxLen; omega), (Below.refl _ _).alloc (Nat.le_refl _) _⟩
  case round =>
    obtain ⟨k, hk, rfl, hown, hb⟩ := hrel
    clear hmk
    have hl : (List.replicate (s.size - k) (0 : UInt8) ++ (s.data.toList.take k).reverse).length = s.size := by simp; omega
    by_cases h0 : k = s.size
    · subst h0
      have hcv := run_text hown
      go_wp2
      go_ret
      exact ⟨by rw [List.take_of_length_le (by simp)]; simp, hb⟩
    · have hlt : k < s.size := by omega
      obtain ⟨v0, hc⟩ := hown.cellAt hl (s.size - 1 - k) (by omega)
      have hf := hown.frozenAt hl (s.size - 1 - k)
      have HS := Lib.hid (hown.stored hl (s.size - 1 - k) s[k])
      rw [rev_set _ _ hlt, ← take_rev s k hlt] at HS
      have HL := Lib.hid hl
      clear hl
      go_wp2
      go_roundw
      case rel => exact ⟨k + 1, by omega, by go_num, HS.out, hb.setCell (Nat.le_refl _) _⟩
      case measure => simp [intOf]; omega
theorem u8_of {b : Int} (h : 0 ≤ b ∧ b ≤ 255) : ∃ x : UInt8, b = (x.toNat : Int) := ⟨UInt8.ofNat b.toNat, by simp; omega⟩
theorem ofNat_u8 (x : UInt8) : UInt8.ofNat ((x.toNat : Int)).toNat = x := by simp
theorem rep_snoc (k : Nat) (x : UInt8) : List.replicate (k + 1) x = List.replicate k x ++ [x] := List.replicate_succ'
theorem set_rep (m : Nat) (x : UInt8) : (List.replicate (m + 1) (0 : UInt8)).set 0 x = x :: List.replicate m 0 := rfl
theorem rep_set (n k : Nat) (h : k < n) (x : UInt8) : (List.replicate k x ++ List.replicate (n - k) 0).set k x = List.replicate (k + 1) x ++ List.replicate (n - (k + 1)) 0 := by
  obtain ⟨m, hm⟩ : ∃ m, n - k = m + 1 := ⟨n - k - 1, by omega⟩
  have e2 : n - (k + 1) = m := by omega
  rw [hm, e2, List.set_append_right _ _ (by simp), List.length_replicate, Nat.sub_self, set_rep, rep_snoc, List.append_assoc]
  rfl

set_option maxHeartbeats 400000 in
theorem specPad (n b : Int) (hn : 0 ≤ n ∧ n ≤ 1048576) (hb : 0 ≤ b ∧ b ≤ 255) (w : World) : Calls Try.prog 79 #[.int .i64 n, .int .u8 b] w fun e w' => e = .returned (txt (List.replicate n.toNat (UInt8.ofNat b.toNat))) ∧ Below w.heap.size w w' := by
  obtain ⟨n, rfl⟩ := Int.eq_ofNat_of_zero_le hn.1
  obtain ⟨x, rfl⟩ := u8_of hb
  rw [ofNat_u8, Int.toNat_natCast]
  go_enter Try.func79, Try.ntmps79
  go_wp2
  go_loopw [5, 6] (fun v i wr => ∃ k : Nat, k ≤ n ∧ i = .int .i64 k ∧ Buf wr w.heap.size v (List.replicate k x) ∧ Below w.heap.size w wr)
    (fun _ i _ => n - (intOf i).toNat)
  case atStart => exact ⟨0, by omega, rfl, Buf.empty w _ (Nat.le_refl _), (Below.refl _ _).alloc (Nat.le_refl _) _⟩
  case round =>
    obtain ⟨k, hk, rfl, hown, hbw⟩ := hrel
    have hsz := hbw.size
    have hl : (List.replicate k x).length ≤ n := by simp; omega
    by_cases h0 : k = n
    · subst h0
      have hcv := run_text hown
      go_wp2
      go_ret
      exact ⟨rfl, hbw⟩
    · have hlt : k < n := by omega
      go_wp2_with (at_builtin; refine wpList_append_lit rfl _ _ rfl rfl hown 1 rfl (by simp) [x] rfl rfl (by omega) (by omega) ?_; intro v1 w1 hown1 hb1)
      go_roundw
      case rel => exact ⟨k + 1, by omega, by go_num, by rw [rep_snoc]; exact hown1, hbw.trans hb1⟩
      case measure => simp [intOf]; omega
set_option maxHeartbeats 400000 in
theorem implPads (n b : Int) (hn : 0 ≤ n ∧ n ≤ 1048576) (hb : 0 ≤ b ∧ b ≤ 255) (w : World) : Calls Try.prog 78 #[.int .i64 n, .int .u8 b] w fun e w' => e = .returned (txt (List.replicate n.toNat (UInt8.ofNat b.toNat))) ∧ Below w.heap.size w w' := by
  obtain ⟨n, rfl⟩ := Int.eq_ofNat_of_zero_le hn.1
  obtain ⟨x, rfl⟩ := u8_of hb
  rw [ofNat_u8, Int.toNat_natCast]
  have hmk := fun W => make_bytes n (by omega) W
  go_enter Try.func78, Try.ntmps78
  go_wp2
  go_loopw [6, 11] (fun _ i wr => ∃ k : Nat, k ≤ n ∧ i = .int .i64 k ∧ Buf wr w.heap.size (.slice (some ⟨w.heap.size, 0, none⟩) n n) (List.replicate k x ++ List.replicate (n - k) 0) ∧ Below w.heap.size w wr)
    (fun _ i _ => n - (intOf i).toNat)
  case atStart => exact ⟨0, by omega, rfl, by simpa using Buf.zeros w _ n (Nat.le_refl _) (by unfold maxLen; omega), (Below.refl _ _).alloc (Nat.le_refl _) _⟩
  case round =>
    obtain ⟨k, hk, rfl, hown, hbw⟩ := hrel
    clear hmk
    have hl : (List.replicate k x ++ List.replicate (n - k) (0 : UInt8)).length = n := by simp; omega
    by_cases h0 : k = n
    · subst h0
      have hcv := run_text hown
      go_wp2
      go_ret
      exact ⟨by simp, hbw⟩
    · have hlt : k < n := by omega
      obtain ⟨v0, hc⟩ := hown.cellAt hl k hlt
      have hf := hown.frozenAt hl k
      have HS := Lib.hid (hown.stored hl k x)
      rw [rep_set _ _ hlt] at HS
      clear hl
      go_wp2
      go_roundw
      case rel => exact ⟨k + 1, by omega, by go_num, HS.out, hbw.setCell (Nat.le_refl _) _⟩
      case measure => simp [intOf]; omega
end Go.Proofs.Ytnmieocbpdoicaa
