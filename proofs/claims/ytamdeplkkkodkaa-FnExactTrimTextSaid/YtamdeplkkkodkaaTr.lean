/- Proved here: what TrimText returns. Condition: a text has at most 2^20 bytes. -/
import Derived.Test.YtamdeplkkkodkaaHb
import Derived.Test.YtamdeplkkkodkaaTx
import Derived.Test.YtamdeplkkkodkaaHeld
import Derived.Lib.Strings
namespace Go.Proofs.Ytamdeplkkkodkaa
open Go.RowKit

/-- A list without the elements at its end that p takes. -/
def rtrim (p : UInt8 → Bool) (l : List UInt8) : List UInt8 := (l.reverse.dropWhile p).reverse
theorem rtrim_yes (p : UInt8 → Bool) (l : List UInt8) (x : UInt8) (h : p x = true) : rtrim p (l ++ [x]) = rtrim p l := by simp [rtrim, h]
theorem rtrim_no (p : UInt8 → Bool) (l : List UInt8) (x : UInt8) (h : p x = false) : rtrim p (l ++ [x]) = l ++ [x] := by simp [rtrim, h]
theorem rtrim_nil (p : UInt8 → Bool) : rtrim p [] = [] := rfl
theorem take_snoc' (s : ByteArray) (k : Nat) (h : k < s.size) : s.data.toList.take (k + 1) = s.data.toList.take k ++ [s[k]] := by
  rw [List.take_succ_eq_append_getElem (by simpa using h)]; rfl
theorem extract_take (s : ByteArray) (k : Nat) : s.extract 0 k = ⟨(s.data.toList.take k).toArray⟩ := by rw [Lib.extract_eq]; simp
/-- Is the byte in the set. -/
def inB (a b : Int) (x : UInt8) : Bool := hasB a b x.toNat

set_option maxHeartbeats 2000000 in
set_option maxRecDepth 10000 in
theorem implTrim (s : ByteArray) (hs : s.size ≤ 1048576) (a b : Int) (w : World) : Calls Try.prog 19 #[.string s, cs a b] w fun e w' => e = .returned (txt (rtrim (inB a b) s.data.toList)) ∧ Below w.heap.size w w' := by
  go_enter Try.func19, Try.ntmps19
  go_wp2
  go_loopw [5] (fun n wr => ∃ k : Nat, k ≤ s.size ∧ n = .int .i64 k ∧ Hid (rtrim (inB a b) s.data.toList = rtrim (inB a b) (s.data.toList.take k)) ∧ Below (w.heap.size + 1) (w.alloc (csB 28 a b)) wr)
    (fun n _ => (intOf n).toNat)
  case atStart => exact ⟨s.size, by omega, rfl, by rw [List.take_of_length_le (by simp)]; exact Lib.hid rfl, Below.refl _ _⟩
  case round =>
    obtain ⟨k, hk, rfl, HT, hb⟩ := hrel
    have hsz := hb.size
    simp at hsz
    have c0 : wr.cell? ⟨w.heap.size, 0, none⟩ = some (.int .i64 a) := (hb.cell (p := ⟨w.heap.size, 0, none⟩) (by simp)).trans (by go_simp)
    have c1 : wr.cell? ⟨w.heap.size, 1, none⟩ = some (.int .i64 b) := (hb.cell (p := ⟨w.heap.size, 1, none⟩) (by simp)).trans (by go_simp)
    by_cases h0 : k = 0
    · subst h0
      have z : decide ((0 : Int) < 0) = false := rfl
      go_wp2
      go_quiet (fail)
      go_wp2
      go_ret
      exact ⟨by rw [HT.out]; rfl, below_drewN (((Below.refl w.heap.size w).alloc (Nat.le_refl _) _).trans (hb.mono (by omega))) _⟩
    · obtain ⟨j, rfl⟩ : ∃ j, k = j + 1 := ⟨k - 1, by omega⟩
      clear h0
      have i0 : (0 : Int) < (j : Int) + 1 := by omega
      have i1 : (j : Int) < (s.size : Int) := by omega
      have i2 : (0 : Int) ≤ (j : Int) := by omega
      have HS := Lib.hid (take_snoc' s j (by omega))
      have hx := byte_bd s[j]
      have w1 : IntKind.i64.wrap ((j : Int) + 1 - 1) = (j : Int) := by rw [show ((j : Int) + 1 - 1) = (j : Int) from by omega]; exact i64_in' (by omega)
      have w2 : IntKind.i64.wrap (j : Int) = (j : Int) := i64_in' (by omega)
      go_wp2
      go_region_held3 (fun w' => w'.cell? ⟨w.heap.size, 0, none⟩ = some (.int .i64 a) ∧ w'.cell? ⟨w.heap.size, 1, none⟩ = some (.int .i64 b)) (go_keep)
        (first | (go_at_call 47; refine (implHas a b _ hx _).mono ?_; rintro e w' ⟨rfl, rfl⟩))
      clear w1 w2
      go_wp2
      · have hh : hasB a b s[j].toNat = true := by assumption
        go_roundw
        case rel => exact ⟨j, by omega, rfl, Lib.hid (by rw [HT.out, HS.out]; exact rtrim_yes _ _ _ hh), (hb.alloc (by omega) _).drew⟩
        case measure => simp [intOf]
      · have hh' : hasB a b s[j].toNat = false := by assumption
        go_ret
        exact ⟨by rw [extract_take, HT.out, HS.out, rtrim_no _ _ _ hh']; rfl, ((Below.refl w.heap.size w).alloc (Nat.le_refl _) _).trans ((hb.alloc (by omega) _).drew.mono (by omega))⟩
set_option maxHeartbeats 2000000 in
set_option maxRecDepth 10000 in
theorem specTrim (s : ByteArray) (hs : s.size ≤ 1048576) (a b : Int) (w : World) : Calls Try.prog 17 #[.string s, cs a b] w fun e w' => e = .returned (txt (rtrim (inB a b) s.data.toList)) ∧ Below w.heap.size w w' := by
  go_enter Try.func17, Try.ntmps17
  go_wp2
  go_loopw [5] (fun n wr => ∃ k : Nat, k ≤ s.size ∧ n = .int .i64 k ∧ Hid (rtrim (inB a b) s.data.toList = rtrim (inB a b) (s.data.toList.take k)) ∧ Below (w.heap.size + 1) (w.alloc (csB 28 a b)) wr)
    (fun n _ => (intOf n).toNat)
  case atStart => exact ⟨s.size, by omega, rfl, by rw [List.take_of_length_le (by simp)]; exact Lib.hid rfl, Below.refl _ _⟩
  case round =>
    obtain ⟨k, hk, rfl, HT, hb⟩ := hrel
    have hsz := hb.size
    simp at hsz
    have c0 : wr.cell? ⟨w.heap.size, 0, none⟩ = some (.int .i64 a) := (hb.cell (p := ⟨w.heap.size, 0, none⟩) (by simp)).trans (by go_simp)
    have c1 : wr.cell? ⟨w.heap.size, 1, none⟩ = some (.int .i64 b) := (hb.cell (p := ⟨w.heap.size, 1, none⟩) (by simp)).trans (by go_simp)
    by_cases h0 : k = 0
    · subst h0
      have z : decide ((0 : Int) < 0) = false := rfl
      go_wp2
      go_quiet (fail)
      go_wp2
      go_ret
      exact ⟨by rw [HT.out]; rfl, below_drewN (((Below.refl w.heap.size w).alloc (Nat.le_refl _) _).trans (hb.mono (by omega))) _⟩
    · obtain ⟨j, rfl⟩ : ∃ j, k = j + 1 := ⟨k - 1, by omega⟩
      clear h0
      have i0 : (0 : Int) < (j : Int) + 1 := by omega
      have i1 : (j : Int) < (s.size : Int) := by omega
      have i2 : (0 : Int) ≤ (j : Int) := by omega
      have HS := Lib.hid (take_snoc' s j (by omega))
      have hx := byte_bd s[j]
      have w1 : IntKind.i64.wrap ((j : Int) + 1 - 1) = (j : Int) := by rw [show ((j : Int) + 1 - 1) = (j : Int) from by omega]; exact i64_in' (by omega)
      have w2 : IntKind.i64.wrap (j : Int) = (j : Int) := i64_in' (by omega)
      go_wp2
      go_region_held3 (fun w' => w'.cell? ⟨w.heap.size, 0, none⟩ = some (.int .i64 a) ∧ w'.cell? ⟨w.heap.size, 1, none⟩ = some (.int .i64 b)) (go_keep)
        (first | (go_at_call 46; refine (specHas a b _ hx _).mono ?_; rintro e w' ⟨rfl, rfl⟩))
      clear w1 w2
      go_wp2
      · have hh : hasB a b s[j].toNat = true := by assumption
        go_roundw
        case rel => exact ⟨j, by omega, rfl, Lib.hid (by rw [HT.out, HS.out]; exact rtrim_yes _ _ _ hh), (hb.alloc (by omega) _).drew⟩
        case measure => simp [intOf]
      · have hh' : hasB a b s[j].toNat = false := by assumption
        go_ret
        exact ⟨by rw [extract_take, HT.out, HS.out, rtrim_no _ _ _ hh']; rfl, ((Below.refl w.heap.size w).alloc (Nat.le_refl _) _).trans ((hb.alloc (by omega) _).drew.mono (by omega))⟩
end Go.Proofs.Ytamdeplkkkodkaa
