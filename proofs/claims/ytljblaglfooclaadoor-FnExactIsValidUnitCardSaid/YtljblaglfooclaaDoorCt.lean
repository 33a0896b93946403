/- Proved here: what CsetText, CsetSize, NewCset, RangeCset return. Condition: a text has at most 2^20 bytes. -/
import Derived.Test.YtljblaglfooclaaDoorWb
import Derived.Test.YtljblaglfooclaaDoorTx
import Derived.Test.YtljblaglfooclaaDoorPl
import Derived.Test.YtljblaglfooclaaDoorHeld
namespace Go.Proofs.YtljblaglfooclaaDoor
open Go.RowKit

/-- The letters of a set below k. -/
def csetPre (a b : Int) (k : Nat) : List UInt8 := ((List.range k).filter (hasB a b)).map UInt8.ofNat
/-- The letters of a set. -/
def csetL (a b : Int) : List UInt8 := csetPre a b 128
theorem csetPre_yes {a b : Int} {k : Nat} (h : hasB a b k = true) : csetPre a b (k + 1) = csetPre a b k ++ [UInt8.ofNat k] := by simp [csetPre, List.range_succ, h]
theorem csetPre_no {a b : Int} {k : Nat} (h : hasB a b k = false) : csetPre a b (k + 1) = csetPre a b k := by simp [csetPre, List.range_succ, h]
theorem csetPre_len (a b : Int) (k : Nat) : (csetPre a b k).length ≤ k := by
  have := List.length_filter_le (hasB a b) (List.range k)
  simpa [csetPre] using this
theorem byteCells (k : Nat) (h : k < 256) : (#[Value.int .u8 (k : Int)] : Array Value).toList = bytesV [UInt8.ofNat k] := by
  simp [bytesV]; omega
theorem u8_lt (k : Nat) (h : k < 256) : 0 ≤ (k : Int) ∧ (k : Int) ≤ 255 := by omega

set_option maxHeartbeats 1000000 in
set_option maxRecDepth 10000 in
theorem specCsetText (a b : Int) (w : World) : Calls Tryd.prog 56 #[cs a b] w fun e w' => e = .returned (txt (csetL a b)) ∧ Below w.heap.size w w' := by
  go_enter Tryd.func56, Tryd.ntmps56
  go_wp2
  go_loopw [3, 4] (fun v i wr => ∃ k : Nat, k ≤ 128 ∧ i = .int .i64 k ∧ Buf wr (w.heap.size + 1) v (csetPre a b k) ∧ Below (w.heap.size + 1) (w.alloc (csB 83 a b)) wr)
    (fun _ i _ => 128 - (intOf i).toNat)
  case atStart => exact ⟨0, by omega, rfl, Buf.empty' (by simp) (by simp), (Below.refl _ _).alloc (by simp) _⟩
  case round =>
    obtain ⟨k, hk, rfl, hown, hb⟩ := hrel
    have hsz := hb.size
    simp at hsz
    have hl := csetPre_len a b k
    by_cases h0 : k = 128
    · subst h0
      have hcv := run_text hown
      go_wp2
      go_ret
      exact ⟨rfl, ((Below.refl _ _).alloc (Nat.le_refl _) _).trans (hb.mono (by omega))⟩
    · have hlt : k < 128 := by omega
      have c0 : wr.cell? ⟨w.heap.size, 0, none⟩ = some (.int .i64 a) := (hb.cell (p := ⟨w.heap.size, 0, none⟩) (by simp)).trans (by go_simp)
      have c1 : wr.cell? ⟨w.heap.size, 1, none⟩ = some (.int .i64 b) := (hb.cell (p := ⟨w.heap.size, 1, none⟩) (by simp)).trans (by go_simp)
      have HC := Lib.hid (byteCells k (by omega))
      by_cases hh : hasB a b k = true
      · have HP := Lib.hid (csetPre_yes hh)
        go_wp2_with (first
          | (go_at_call 65; refine (specHas a b k (by omega) _).mono ?_; rintro e w' ⟨rfl, rfl⟩)
          | (at_builtin; refine wpList_append_lit rfl _ _ rfl rfl (hown.alloc _) 1 rfl (by simp) [UInt8.ofNat k] rfl HC.out (by omega) (by simp; omega) ?_; intro v1 w1 hown1 hb1))
        go_roundw
        case rel => exact ⟨k + 1, by omega, by go_num, by rw [HP.out]; exact hown1, (hb.alloc (by omega) _).trans hb1⟩
        case measure => simp [intOf]; omega
      · have hh' : hasB a b k = false := by simpa using hh
        clear hh
        have HP := Lib.hid (csetPre_no hh')
        go_wp2_with (first
          | (go_at_call 65; refine (specHas a b k (by omega) _).mono ?_; rintro e w' ⟨rfl, rfl⟩))
        go_roundw
        case rel => exact ⟨k + 1, by omega, by go_num, by rw [HP.out]; exact hown.alloc _, hb.alloc (by omega) _⟩
        case measure => simp [intOf]; omega
end Go.Proofs.YtljblaglfooclaaDoor
