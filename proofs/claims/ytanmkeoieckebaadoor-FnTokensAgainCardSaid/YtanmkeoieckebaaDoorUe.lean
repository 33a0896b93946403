/- Proved here: what the reference's l4End returns: where a literal ends. Condition: a text has at most 2^20 bytes; the index lies in it. -/
import Derived.Test.YtanmkeoieckebaaDoorUq
namespace Go.Proofs.YtanmkeoieckebaaDoor
open Go.RowKit

/-- Where the literal that begins at a ends, or -1. -/
def endI (q : UInt8) (s : ByteArray) (a : Nat) : Int := match endN q (s.data.toList.drop (a + 1)) with | some j => (a : Int) + 1 + (j : Int) | none => -1
theorem endI_none {q : UInt8} {s : ByteArray} {a : Nat} (h : endN q (s.data.toList.drop (a + 1)) = none) : endI q s a = -1 := by rw [endI, h]
theorem endI_some {q : UInt8} {s : ByteArray} {a j : Nat} (h : endN q (s.data.toList.drop (a + 1)) = some j) : endI q s a = (a : Int) + 1 + (j : Int) := by rw [endI, h]
theorem N_nil {q : UInt8} {s : ByteArray} {k : Nat} (h : s.size ≤ k) : endN q (s.data.toList.drop k) = none := by
  rw [List.drop_of_length_le (by simpa using h), endN_nil]
theorem N_at {q : UInt8} {s : ByteArray} {k : Nat} (h : k < s.size) : endN q (s.data.toList.drop k) = if s[k] = q then some 1 else if s[k].toNat < 32 ∨ 126 < s[k].toNat then none else if s[k] = 92 then (endN q (s.data.toList.drop (k + 2))).map (· + 2) else (endN q (s.data.toList.drop (k + 1))).map (· + 1) := by
  rw [List.drop_eq_getElem_cons (by simpa using h), endN, List.drop_drop]; rfl
theorem N_next {o u u' : Option Nat} {d e : Nat} (h : o = u.map (· + d)) (hu : u = u'.map (· + e)) : o = u'.map (· + (d + e)) := by
  subst hu; rw [h]; cases u' <;> simp; omega
set_option maxHeartbeats 2000000 in
theorem specEnd (q : UInt8) (s : ByteArray) (hs : s.size ≤ 1048576) (a : Nat) (ha : a < s.size) (hq : s[a] = q) (w : World) : Calls Tryd.prog 99 #[.string s, .int .i64 (a : Int)] w fun e w' => e = .returned (.int .i64 (endI q s a)) ∧ Below w.heap.size w w' := by
  have ia : (a : Int) < (s.size : Int) := by omega
  go_enter Tryd.func99, Tryd.ntmps99
  go_wp2
  go_loopw [5] (fun i wr => ∃ k d : Nat, i = .int .i64 k ∧ Hid (endN q (s.data.toList.drop (a + 1)) = (endN q (s.data.toList.drop k)).map (· + d)) ∧ k = a + 1 + d ∧ k ≤ s.size + 1 ∧ Below w.heap.size w wr) (fun i _ => s.size + 1 - (intOf i).toNat)
  case atStart => exact ⟨a + 1, 0, congrArg (Value.int .i64) (by omega), Lib.hid (by simp), rfl, by omega, Below.refl _ _⟩
  case round =>
    obtain ⟨k, d, rfl, HR, hkd, hk, hb⟩ := hrel
    by_cases hkz : s.size ≤ k
    · have hn : endN q (s.data.toList.drop (a + 1)) = none := by rw [HR.out, N_nil hkz]; rfl
      have HN := Lib.hid (endI_none hn)
      clear HR hn hkd
      go_wp2
      go_ret
      exact ⟨by rw [HN.out]; rfl, hb⟩
    · have hlt : k < s.size := by omega
      have ik : (k : Int) < (s.size : Int) := by omega
      have HA := Lib.hid (N_at (q := q) hlt)
      have hkb := byte_bd s[k]
      by_cases c0 : s[k] = q
      · have b0 : ((s[k].toNat : Int) == (s[a].toNat : Int)) = true := by rw [hq]; exact u8T c0
        have hn : endN q (s.data.toList.drop (a + 1)) = some (1 + d) := by rw [HR.out, HA.out, if_pos c0]; rfl
        have HN := Lib.hid (show endI q s a = (k : Int) + 1 by rw [endI_some hn]; omega)
        clear HR HA hn hkd c0 hq
        go_wp2
        go_quiet (fail)
        go_wp2
        go_ret
        exact ⟨by rw [HN.out]; rfl, below_drewN hb _⟩
      · have b0 : ((s[k].toNat : Int) == (s[a].toNat : Int)) = false := by rw [hq]; exact u8F c0
        by_cases c1 : s[k].toNat < 32 ∨ 126 < s[k].toNat
        · have hn : endN q (s.data.toList.drop (a + 1)) = none := by rw [HR.out, HA.out, if_neg c0, if_pos c1]; rfl
          have HN := Lib.hid (endI_none hn)
          clear HR HA hn hkd c0 hq
          rcases c1 with c1 | c1
          all_goals
            go_wp2
            go_quiet (fail)
            go_wp2
            go_ret
            exact ⟨by rw [HN.out]; rfl, below_drewN hb _⟩
        · have g1 : 32 ≤ s[k].toNat := by omega
          have g2 : s[k].toNat ≤ 126 := by omega
          by_cases c2 : s[k] = 92
          · have b2 : ((s[k].toNat : Int) == 92) = true := u8T c2
            have HN := Lib.hid (N_next HR.out (HA.out.trans ((if_neg c0).trans ((if_neg c1).trans (if_pos c2)))))
            have HK := Lib.hid hkd
            clear HR HA hkd c0 c1 c2 hq
            go_wp2
            go_quiet (fail)
            go_wp2
            go_roundw
            case rel => exact ⟨k + 2, d + 2, congrArg (Value.int .i64) (by omega), HN, by have := HK.out; omega, by omega, below_drewN hb _⟩
            case measure => simp [intOf]; omega
          · have b2 : ((s[k].toNat : Int) == 92) = false := u8F c2
            have HN := Lib.hid (N_next HR.out (HA.out.trans ((if_neg c0).trans ((if_neg c1).trans (if_neg c2)))))
            have HK := Lib.hid hkd
            clear HR HA hkd c0 c1 c2 hq
            go_wp2
            go_quiet (fail)
            go_wp2
            go_roundw
            case rel => exact ⟨k + 1, d + 1, congrArg (Value.int .i64) (by omega), HN, by have := HK.out; omega, by omega, below_drewN hb _⟩
            case measure => simp [intOf]; omega
end Go.Proofs.YtanmkeoieckebaaDoor
