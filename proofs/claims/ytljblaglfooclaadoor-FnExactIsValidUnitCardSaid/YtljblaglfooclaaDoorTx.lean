/- Proved here: what the functions on texts return (reversal, pads). Condition: the text has at most 2^20 bytes. -/
import Derived.Test.YtljblaglfooclaaDoorBuf
namespace Go.Proofs.YtljblaglfooclaaDoor
open Go.RowKit

/-- A text of a list of bytes. -/
abbrev txt (l : List UInt8) : Value := .string ⟨l.toArray⟩

theorem drop_rev (s : ByteArray) (k : Nat) (h : k < s.size) : (s.data.toList.drop k).reverse = (s.data.toList.drop (k + 1)).reverse ++ [s[k]] := by
  rw [List.drop_eq_getElem_cons (by simpa using h), List.reverse_cons]; rfl

theorem rev_set (n k : Nat) (h : k < n) (r : List UInt8) (x : UInt8) : (List.replicate (n - k) 0 ++ r).set (n - 1 - k) x = List.replicate (n - (k + 1)) 0 ++ (x :: r) := by
  obtain ⟨m, hm⟩ : ∃ m, n - k = m + 1 := ⟨n - k - 1, by omega⟩
  have e1 : n - 1 - k = m := by omega
  have e2 : n - (k + 1) = m := by omega
  rw [hm, e1, e2, List.replicate_succ', List.append_assoc, List.set_append_right _ _ (by simp)]
  simp
theorem take_rev (s : ByteArray) (k : Nat) (h : k < s.size) : (s.data.toList.take (k + 1)).reverse = s[k] :: (s.data.toList.take k).reverse := by
  rw [List.take_succ_eq_append_getElem (by simpa using h), List.reverse_append]; rfl

theorem u8_of {b : Int} (h : 0 ≤ b ∧ b ≤ 255) : ∃ x : UInt8, b = (x.toNat : Int) := ⟨UInt8.ofNat b.toNat, by simp; omega⟩
theorem ofNat_u8 (x : UInt8) : UInt8.ofNat ((x.toNat : Int)).toNat = x := by simp
theorem rep_snoc (k : Nat) (x : UInt8) : List.replicate (k + 1) x = List.replicate k x ++ [x] := List.replicate_succ'
theorem set_rep (m : Nat) (x : UInt8) : (List.replicate (m + 1) (0 : UInt8)).set 0 x = x :: List.replicate m 0 := rfl
theorem rep_set (n k : Nat) (h : k < n) (x : UInt8) : (List.replicate k x ++ List.replicate (n - k) 0).set k x = List.replicate (k + 1) x ++ List.replicate (n - (k + 1)) 0 := by
  obtain ⟨m, hm⟩ : ∃ m, n - k = m + 1 := ⟨n - k - 1, by omega⟩
  have e2 : n - (k + 1) = m := by omega
  rw [hm, e2, List.set_append_right _ _ (by simp), List.length_replicate, Nat.sub_self, set_rep, rep_snoc, List.append_assoc]
  rfl

end Go.Proofs.YtljblaglfooclaaDoor
