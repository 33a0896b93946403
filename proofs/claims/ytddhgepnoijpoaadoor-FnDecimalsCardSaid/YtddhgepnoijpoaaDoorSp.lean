/- Proved here: what SplitByte returns, of the program and of the reference: a slice of its own with the parts. Condition: a text has at most 2^20 bytes. -/
import Derived.Test.YtddhgepnoijpoaaDoorSpP
import Derived.Test.YtddhgepnoijpoaaDoorSb
import Derived.Test.YtddhgepnoijpoaaDoorHeld
namespace Go.Proofs.YtddhgepnoijpoaaDoor
open Go.RowKit

theorem spT {x c : UInt8} (h : x = c) : ((x.toNat : Int) == (c.toNat : Int)) = true := by subst h; simp
theorem spF {x c : UInt8} (h : ¬ x = c) : ((x.toNat : Int) == (c.toNat : Int)) = false := by
  rw [beq_eq_false_iff_ne]; intro e; exact h (UInt8.toNat_inj.1 (by omega))
theorem one_text (t : ByteArray) : (#[Value.string t] : Array Value).toList = textsV [t] := rfl
theorem SBuf.of {w : World} {B : Nat} {v : Value} {l m : List ByteArray} (h : SBuf w B v l) (e : m = l) : SBuf w B v m := by subst e; exact h
set_option maxHeartbeats 2000000 in
theorem implSplit (s : ByteArray) (hs : s.size ≤ 1048576) (q : UInt8) (w : World) : Calls Tryd.prog 35 #[.string s, .int .u8 (q.toNat : Int)] w fun e w' => ∃ v, e = .returned v ∧ SBuf w' w.heap.size v (splitT q s) ∧ Below w.heap.size w w' := by
  have hqb := byte_bd q
  go_enter Tryd.func35, Tryd.ntmps35
  go_wp2
  go_loopw [5, 6, 7] (fun v a i wr => ∃ (p k : Nat) (acc : List ByteArray), a = .int .i64 p ∧ i = .int .i64 k ∧ Hid (SpR q s p k acc) ∧ SBuf wr w.heap.size v acc ∧ p ≤ k ∧ k ≤ s.size ∧ acc.length ≤ k ∧ Below w.heap.size w wr)
    (fun _ _ i _ => s.size - (intOf i).toNat)
  case atStart => exact ⟨0, 0, [], rfl, rfl, Lib.hid (SpR.start q s), SBuf.lit w w.heap.size [] (Nat.le_refl _) (by simp [maxLen]), by omega, by omega, by simp, (Below.refl _ _).alloc (Nat.le_refl _) _⟩
  case round =>
    obtain ⟨p, k, acc, rfl, rfl, HR, hown, hpk, hk, hacc, hb⟩ := hrel
    have hsz := hb.size
    by_cases hkz : k = s.size
    · subst hkz
      have HN := Lib.hid HR.out.done
      clear HR
      go_wp2_with (at_builtin; refine wpList_appendS_lit rfl _ _ rfl rfl hown 1 rfl (by simp) [s.extract p s.size] rfl rfl (by omega) (by omega) ?_; intro v1 w1 hown1 hb1)
      go_ret
      exact ⟨_, rfl, hown1.of HN.out, hb.trans hb1⟩
    · have hlt : k < s.size := by omega
      have hkb := byte_bd s[k]
      by_cases c0 : s[k] = q
      · have b0 := spT c0
        have HN := Lib.hid (HR.out.yes hlt c0)
        clear HR c0
        go_wp2_with (at_builtin; refine wpList_appendS_lit rfl _ _ rfl rfl hown 1 rfl (by simp) [s.extract p k] rfl rfl (by omega) (by omega) ?_; intro v1 w1 hown1 hb1)
        go_roundw
        case rel => exact ⟨k + 1, k + 1, _, by go_num, by go_num, HN, hown1, by omega, by omega, by simp; omega, hb.trans hb1⟩
        case measure => simp [intOf] <;> omega
      · have b0 := spF c0
        have HN := Lib.hid (HR.out.no hpk hlt c0)
        clear HR c0
        go_wp2
        go_roundw
        case rel => exact ⟨p, k + 1, _, rfl, by go_num, HN, hown, by omega, by omega, by omega, hb⟩
        case measure => simp [intOf] <;> omega
end Go.Proofs.YtddhgepnoijpoaaDoor
