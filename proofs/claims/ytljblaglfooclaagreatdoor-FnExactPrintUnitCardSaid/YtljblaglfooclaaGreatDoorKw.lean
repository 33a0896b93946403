/- Proved here: what the tests for membership in a constant list of words give, of the program (its words parted at the spaces) and of the reference (its words one by one). Condition: the listed table of white space lies in memory (the program's form alone). -/
import Derived.Test.YtljblaglfooclaaGreatDoorCd
import Derived.Test.YtljblaglfooclaaGreatDoorSh
import Derived.Lib.Fields
import Derived.Lib.SlicesS
namespace Go.Proofs.YtljblaglfooclaaGreatDoor
open Go.RowKit

theorem teq' (t t' : ByteArray) : (t.toList == t'.toList) = decide (t = t') := by
  rw [ByteArray.toList_eq, ByteArray.toList_eq, Bool.eq_iff_iff, beq_iff_eq, decide_eq_true_eq]
  constructor
  · intro h; obtain ⟨⟨a⟩⟩ := t; obtain ⟨⟨b⟩⟩ := t'; simp at h; rw [h]
  · intro h; rw [h]
theorem teq_no {t t' : ByteArray} (h : ¬ t = t') : (t.toList == t'.toList) = false := by rw [teq']; exact decide_eq_false h
theorem has_yes {zs : List ByteArray} {x : ByteArray} (k : Nat) (h : k < zs.length) (e : zs[k] = x) : Lib.containsS zs x = true := (Lib.containsS_iff zs x).2 (e ▸ List.getElem_mem h)
theorem has_no {zs : List ByteArray} {x : ByteArray} (h : ∀ j (hj : j < zs.length), ¬ zs[j] = x) : Lib.containsS zs x = false := by
  rw [Bool.eq_false_iff]
  intro hc
  obtain ⟨j, hj, e⟩ := List.getElem_of_mem ((Lib.containsS_iff zs x).1 hc)
  exact h j hj e
/-- A block that holds texts. -/
abbrev strsO (zs : List ByteArray) (T : TypeId) : Obj := .cells (zs.map Value.string).toArray T
theorem strs_cell (w : World) (zs : List ByteArray) (T : TypeId) (j : Nat) (h : j < zs.length) : (w.alloc (strsO zs T)).cell? ⟨w.heap.size, 0 + j, none⟩ = some (.string zs[j]) := by
  rw [Nat.zero_add, (Blk.new w T _).cell j]
  simp [h]
theorem ret_bk {a b : Bool} (h : a = b) : Ending.returned (.bool a) = .returned (.bool b) := by rw [h]
theorem getD_at {zs : List ByteArray} {j : Nat} (h : j < zs.length) : zs.getD j ByteArray.empty = zs[j] := by simp [List.getD, h]
set_option maxHeartbeats 1000000 in
theorem specHasW (zs : List ByteArray) (b o cap n : Nat) (hn : n = zs.length) (hm : n ≤ 1048576) (x : ByteArray) (w : World) (hc : ∀ j (h : j < zs.length), w.cell? ⟨b, o + j, none⟩ = some (.string zs[j])) :
    Calls Tryz.prog 74 #[.slice (some ⟨b, o, none⟩) n cap, .string x] w fun e w' => e = .returned (.bool (Lib.containsS zs x)) ∧ Below w.heap.size w w' := by
  have HC := Lib.hid hc
  clear hc
  go_enter Tryz.func74, Tryz.ntmps74
  go_wp2
  go_loopw [5] (fun i wr => ∃ k : Nat, k ≤ n ∧ i = .int .i64 k ∧ Hid (∀ j (hj : j < zs.length), j < k → ¬ zs[j] = x) ∧ Below w.heap.size w wr)
    (fun i _ => n - (intOf i).toNat)
  case atStart => exact ⟨0, by omega, rfl, Lib.hid (fun j _ h => by omega), Below.refl _ _⟩
  case round =>
    obtain ⟨k, hk, rfl, HN, hb⟩ := hrel
    by_cases h : k < zs.length
    · have c0 := kc1 hb (HC.out k h)
      have i0 : (k : Int) < (n : Int) := by omega
      by_cases hx : zs[k] = x
      · have HY := Lib.hid (has_yes k h hx)
        rw [hx] at c0
        have b1 : (x.toList == x.toList) = true := by simp
        clear hx h
        go_wp2
        go_ret
        exact ⟨ret_bk HY.out.symm, hb⟩
      · have b1 := teq_no hx
        have HX := Lib.hid hx
        obtain ⟨z, hz⟩ : ∃ z, z = zs[k] := ⟨_, rfl⟩
        have HZ := Lib.hid hz
        rw [← hz] at c0 b1
        clear hx hz
        have i1 : IntKind.i64.wrap ((k : Int) + 1) = (k : Int) + 1 := i64_in' (by omega)
        go_wp2
        go_roundw
        case rel => exact ⟨k + 1, by omega, by go_num, Lib.hid (fun j hj hjk => (by
          rcases Nat.lt_or_ge j k with h1 | h1
          · exact HN.out j hj h1
          · obtain rfl : j = k := by omega
            exact HX.out)), hb⟩
        case measure => simp [intOf]; omega
    · have HY := Lib.hid (has_no fun j hj => HN.out j hj (by omega))
      have i0 : ¬ (k : Int) < (n : Int) := by omega
      go_wp2
      go_ret
      exact ⟨ret_bk HY.out.symm, hb⟩
/-- The words of IsKeyword. -/
def zIsKeyword : List ByteArray := [⟨#[110, 117, 108, 108]⟩, ⟨#[102, 97, 105, 108]⟩, ⟨#[115, 117, 98, 106, 101, 99, 116]⟩, ⟨#[112, 111, 115]⟩, ⟨#[108, 99, 97, 115, 101]⟩, ⟨#[117, 99, 97, 115, 101]⟩, ⟨#[108, 101, 116, 116, 101, 114, 115]⟩, ⟨#[100, 105, 103, 105, 116, 115]⟩]
def cIsKeyword : ByteArray := ⟨#[110, 117, 108, 108, 32, 102, 97, 105, 108, 32, 115, 117, 98, 106, 101, 99, 116, 32, 112, 111, 115, 32, 108, 99, 97, 115, 101, 32, 117, 99, 97, 115, 101, 32, 108, 101, 116, 116, 101, 114, 115, 32, 100, 105, 103, 105, 116, 115]⟩
theorem fIsKeyword : (Lib.fields cIsKeyword.data.toList).map (fun l => Value.string ⟨l.toArray⟩) = zIsKeyword.map Value.string := by kernel_rfl
theorem nIsKeyword : (Lib.fields cIsKeyword.data.toList).length = 8 := by kernel_rfl
theorem aIsKeyword : cIsKeyword.data.toList.all (fun b => decide (b.toNat < 128)) = true := by kernel_rfl
theorem splitIsKeyword (w : World) (ht : Lib.TabIs Tryz.prog w "strings.asciiSpace" .u8 Lib.asciiSpaceTab) :
    Calls Tryz.prog 93 #[.string ⟨#[110, 117, 108, 108, 32, 102, 97, 105, 108, 32, 115, 117, 98, 106, 101, 99, 116, 32, 112, 111, 115, 32, 108, 99, 97, 115, 101, 32, 117, 99, 97, 115, 101, 32, 108, 101, 116, 116, 101, 114, 115, 32, 100, 105, 103, 105, 116, 115]⟩] w fun e w' => e = .returned (.slice (some ⟨w.heap.size, 0, none⟩) 8 8) ∧ w.alloc (strsO zIsKeyword 9) = w' := by
  have h := Tryz.strings_Fields_laid cIsKeyword w (of_decide_eq_true (by kernel_rfl)) (fun j b hb => by
    have := List.all_eq_true.1 aIsKeyword b (List.mem_of_getElem? hb)
    exact of_decide_eq_true this) ht
  rw [fIsKeyword, nIsKeyword] at h
  exact h.mono fun e w' ⟨h1, h2⟩ => ⟨h1, h2.symm⟩
theorem inIsKeyword (x : ByteArray) (w : World) : Calls Tryz.prog 81 #[.slice (some ⟨w.heap.size, 0, none⟩) 8 8, .string x] (w.alloc (strsO zIsKeyword 9)) fun e w' => e = .returned (.bool (Lib.containsS zIsKeyword x)) ∧ w.alloc (strsO zIsKeyword 9) = w' := by
  have h := Tryz.slices_Contains_string w.heap.size 0 8 8 zIsKeyword x (w.alloc (strsO zIsKeyword 9)) (by decide) (by decide) (fun j hj => by
    rw [strs_cell w _ _ j hj, getD_at hj])
  rw [show zIsKeyword.take 8 = zIsKeyword from rfl] at h
  exact h.mono fun e w' ⟨h1, h2⟩ => ⟨h1, h2.symm⟩
theorem implIsKeyword (x : ByteArray) (w : World) (ht : Lib.TabIs Tryz.prog w "strings.asciiSpace" .u8 Lib.asciiSpaceTab) : Calls Tryz.prog 85 #[.string x] w fun e w' => e = .returned (.bool (Lib.containsS zIsKeyword x)) ∧ Below w.heap.size w w' := by
  have hF := splitIsKeyword w ht
  have hI := inIsKeyword x w
  clear ht
  generalize Lib.containsS zIsKeyword x = r at *
  generalize zIsKeyword = zz at *
  go_enter Tryz.func85, Tryz.ntmps85
  go_wp2_with (first
    | (go_at_call 93; refine hF.mono ?_; rintro e w' ⟨rfl, rfl⟩)
    | (go_at_call 81; refine hI.mono ?_; rintro e w' ⟨rfl, rfl⟩))
  go_ret
  exact ⟨rfl, by repeat (first | exact Below.refl _ _ | refine Below.drew ?_ | refine Below.setCell ?_ (by (try simp); try omega) _ | refine Below.alloc ?_ (by (try simp); try omega) _)⟩
theorem specIsKeyword (x : ByteArray) (w : World) : Calls Tryz.prog 95 #[.string x] w fun e w' => e = .returned (.bool (Lib.containsS zIsKeyword x)) ∧ Below w.heap.size w w' := by
  have hS : ∀ W, W = w.alloc (strsO zIsKeyword 9) → Calls Tryz.prog 74 #[.slice (some ⟨w.heap.size, 0, none⟩) 8 8, .string x] W fun e w' => e = .returned (.bool (Lib.containsS zIsKeyword x)) ∧ Below W.heap.size W w' := fun W hW => by
    subst hW
    exact specHasW zIsKeyword w.heap.size 0 8 8 rfl (by decide) x _ (fun j hj => strs_cell w _ _ j hj)
  generalize Lib.containsS zIsKeyword x = r at *
  go_enter Tryz.func95, Tryz.ntmps95
  go_wp2_with (go_at_call 74; refine Calls.mono (hS _ rfl) ?_; rintro e w' ⟨rfl, hb⟩)
  go_ret
  exact ⟨rfl, Below.trans (by repeat (first | exact Below.refl _ _ | refine Below.drew ?_ | refine Below.setCell ?_ (by (try simp); try omega) _ | refine Below.alloc ?_ (by (try simp); try omega) _)) (hb.mono (by simp))⟩
/-- The words of IsUnaryOperator. -/
def zIsUnaryOperator : List ByteArray := [⟨#[45]⟩, ⟨#[43]⟩, ⟨#[42]⟩, ⟨#[47]⟩, ⟨#[92]⟩, ⟨#[126]⟩, ⟨#[33]⟩, ⟨#[61]⟩, ⟨#[124]⟩, ⟨#[64]⟩, ⟨#[94]⟩, ⟨#[46]⟩, ⟨#[46, 62]⟩]
def cIsUnaryOperator : ByteArray := ⟨#[45, 32, 43, 32, 42, 32, 47, 32, 92, 32, 126, 32, 33, 32, 61, 32, 124, 32, 64, 32, 94, 32, 46, 32, 46, 62]⟩
theorem fIsUnaryOperator : (Lib.fields cIsUnaryOperator.data.toList).map (fun l => Value.string ⟨l.toArray⟩) = zIsUnaryOperator.map Value.string := by kernel_rfl
theorem nIsUnaryOperator : (Lib.fields cIsUnaryOperator.data.toList).length = 13 := by kernel_rfl
theorem aIsUnaryOperator : cIsUnaryOperator.data.toList.all (fun b => decide (b.toNat < 128)) = true := by kernel_rfl
theorem splitIsUnaryOperator (w : World) (ht : Lib.TabIs Tryz.prog w "strings.asciiSpace" .u8 Lib.asciiSpaceTab) :
    Calls Tryz.prog 93 #[.string ⟨#[45, 32, 43, 32, 42, 32, 47, 32, 92, 32, 126, 32, 33, 32, 61, 32, 124, 32, 64, 32, 94, 32, 46, 32, 46, 62]⟩] w fun e w' => e = .returned (.slice (some ⟨w.heap.size, 0, none⟩) 13 13) ∧ w.alloc (strsO zIsUnaryOperator 9) = w' := by
  have h := Tryz.strings_Fields_laid cIsUnaryOperator w (of_decide_eq_true (by kernel_rfl)) (fun j b hb => by
    have := List.all_eq_true.1 aIsUnaryOperator b (List.mem_of_getElem? hb)
    exact of_decide_eq_true this) ht
  rw [fIsUnaryOperator, nIsUnaryOperator] at h
  exact h.mono fun e w' ⟨h1, h2⟩ => ⟨h1, h2.symm⟩
theorem inIsUnaryOperator (x : ByteArray) (w : World) : Calls Tryz.prog 81 #[.slice (some ⟨w.heap.size, 0, none⟩) 13 13, .string x] (w.alloc (strsO zIsUnaryOperator 9)) fun e w' => e = .returned (.bool (Lib.containsS zIsUnaryOperator x)) ∧ w.alloc (strsO zIsUnaryOperator 9) = w' := by
  have h := Tryz.slices_Contains_string w.heap.size 0 13 13 zIsUnaryOperator x (w.alloc (strsO zIsUnaryOperator 9)) (by decide) (by decide) (fun j hj => by
    rw [strs_cell w _ _ j hj, getD_at hj])
  rw [show zIsUnaryOperator.take 13 = zIsUnaryOperator from rfl] at h
  exact h.mono fun e w' ⟨h1, h2⟩ => ⟨h1, h2.symm⟩
theorem implIsUnaryOperator (x : ByteArray) (w : World) (ht : Lib.TabIs Tryz.prog w "strings.asciiSpace" .u8 Lib.asciiSpaceTab) : Calls Tryz.prog 86 #[.string x] w fun e w' => e = .returned (.bool (Lib.containsS zIsUnaryOperator x)) ∧ Below w.heap.size w w' := by
  have hF := splitIsUnaryOperator w ht
  have hI := inIsUnaryOperator x w
  clear ht
  generalize Lib.containsS zIsUnaryOperator x = r at *
  generalize zIsUnaryOperator = zz at *
  go_enter Tryz.func86, Tryz.ntmps86
  go_wp2_with (first
    | (go_at_call 93; refine hF.mono ?_; rintro e w' ⟨rfl, rfl⟩)
    | (go_at_call 81; refine hI.mono ?_; rintro e w' ⟨rfl, rfl⟩))
  go_ret
  exact ⟨rfl, by repeat (first | exact Below.refl _ _ | refine Below.drew ?_ | refine Below.setCell ?_ (by (try simp); try omega) _ | refine Below.alloc ?_ (by (try simp); try omega) _)⟩
theorem specIsUnaryOperator (x : ByteArray) (w : World) : Calls Tryz.prog 96 #[.string x] w fun e w' => e = .returned (.bool (Lib.containsS zIsUnaryOperator x)) ∧ Below w.heap.size w w' := by
  have hS : ∀ W, W = w.alloc (strsO zIsUnaryOperator 9) → Calls Tryz.prog 74 #[.slice (some ⟨w.heap.size, 0, none⟩) 13 13, .string x] W fun e w' => e = .returned (.bool (Lib.containsS zIsUnaryOperator x)) ∧ Below W.heap.size W w' := fun W hW => by
    subst hW
    exact specHasW zIsUnaryOperator w.heap.size 0 13 13 rfl (by decide) x _ (fun j hj => strs_cell w _ _ j hj)
  generalize Lib.containsS zIsUnaryOperator x = r at *
  go_enter Tryz.func96, Tryz.ntmps96
  go_wp2_with (go_at_call 74; refine Calls.mono (hS _ rfl) ?_; rintro e w' ⟨rfl, hb⟩)
  go_ret
  exact ⟨rfl, Below.trans (by repeat (first | exact Below.refl _ _ | refine Below.drew ?_ | refine Below.setCell ?_ (by (try simp); try omega) _ | refine Below.alloc ?_ (by (try simp); try omega) _)) (hb.mono (by simp))⟩
/-- The words of IsReserved. -/
def zIsReserved : List ByteArray := [⟨#[112, 114, 111, 99, 101, 100, 117, 114, 101]⟩, ⟨#[101, 110, 100]⟩, ⟨#[103, 108, 111, 98, 97, 108]⟩, ⟨#[108, 111, 99, 97, 108]⟩, ⟨#[114, 101, 99, 111, 114, 100]⟩, ⟨#[105, 102]⟩, ⟨#[116, 104, 101, 110]⟩, ⟨#[101, 108, 115, 101]⟩, ⟨#[119, 104, 105, 108, 101]⟩, ⟨#[117, 110, 116, 105, 108]⟩, ⟨#[101, 118, 101, 114, 121]⟩, ⟨#[100, 111]⟩, ⟨#[114, 101, 112, 101, 97, 116]⟩, ⟨#[99, 97, 115, 101]⟩, ⟨#[111, 102]⟩, ⟨#[100, 101, 102, 97, 117, 108, 116]⟩, ⟨#[114, 101, 116, 117, 114, 110]⟩, ⟨#[115, 117, 115, 112, 101, 110, 100]⟩, ⟨#[102, 97, 105, 108]⟩, ⟨#[98, 114, 101, 97, 107]⟩, ⟨#[110, 101, 120, 116]⟩, ⟨#[99, 114, 101, 97, 116, 101]⟩, ⟨#[116, 111]⟩, ⟨#[98, 121]⟩, ⟨#[110, 111, 116]⟩, ⟨#[100, 101, 102, 101, 114]⟩]
def cIsReserved : ByteArray := ⟨#[112, 114, 111, 99, 101, 100, 117, 114, 101, 32, 101, 110, 100, 32, 103, 108, 111, 98, 97, 108, 32, 108, 111, 99, 97, 108, 32, 114, 101, 99, 111, 114, 100, 32, 105, 102, 32, 116, 104, 101, 110, 32, 101, 108, 115, 101, 32, 119, 104, 105, 108, 101, 32, 117, 110, 116, 105, 108, 32, 101, 118, 101, 114, 121, 32, 100, 111, 32, 114, 101, 112, 101, 97, 116, 32, 99, 97, 115, 101, 32, 111, 102, 32, 100, 101, 102, 97, 117, 108, 116, 32, 114, 101, 116, 117, 114, 110, 32, 115, 117, 115, 112, 101, 110, 100, 32, 102, 97, 105, 108, 32, 98, 114, 101, 97, 107, 32, 110, 101, 120, 116, 32, 99, 114, 101, 97, 116, 101, 32, 116, 111, 32, 98, 121, 32, 110, 111, 116, 32, 100, 101, 102, 101, 114]⟩
theorem fIsReserved : (Lib.fields cIsReserved.data.toList).map (fun l => Value.string ⟨l.toArray⟩) = zIsReserved.map Value.string := by kernel_rfl
theorem nIsReserved : (Lib.fields cIsReserved.data.toList).length = 26 := by kernel_rfl
theorem aIsReserved : cIsReserved.data.toList.all (fun b => decide (b.toNat < 128)) = true := by kernel_rfl
theorem splitIsReserved (w : World) (ht : Lib.TabIs Tryz.prog w "strings.asciiSpace" .u8 Lib.asciiSpaceTab) :
    Calls Tryz.prog 93 #[.string ⟨#[112, 114, 111, 99, 101, 100, 117, 114, 101, 32, 101, 110, 100, 32, 103, 108, 111, 98, 97, 108, 32, 108, 111, 99, 97, 108, 32, 114, 101, 99, 111, 114, 100, 32, 105, 102, 32, 116, 104, 101, 110, 32, 101, 108, 115, 101, 32, 119, 104, 105, 108, 101, 32, 117, 110, 116, 105, 108, 32, 101, 118, 101, 114, 121, 32, 100, 111, 32, 114, 101, 112, 101, 97, 116, 32, 99, 97, 115, 101, 32, 111, 102, 32, 100, 101, 102, 97, 117, 108, 116, 32, 114, 101, 116, 117, 114, 110, 32, 115, 117, 115, 112, 101, 110, 100, 32, 102, 97, 105, 108, 32, 98, 114, 101, 97, 107, 32, 110, 101, 120, 116, 32, 99, 114, 101, 97, 116, 101, 32, 116, 111, 32, 98, 121, 32, 110, 111, 116, 32, 100, 101, 102, 101, 114]⟩] w fun e w' => e = .returned (.slice (some ⟨w.heap.size, 0, none⟩) 26 26) ∧ w.alloc (strsO zIsReserved 9) = w' := by
  have h := Tryz.strings_Fields_laid cIsReserved w (of_decide_eq_true (by kernel_rfl)) (fun j b hb => by
    have := List.all_eq_true.1 aIsReserved b (List.mem_of_getElem? hb)
    exact of_decide_eq_true this) ht
  rw [fIsReserved, nIsReserved] at h
  exact h.mono fun e w' ⟨h1, h2⟩ => ⟨h1, h2.symm⟩
theorem inIsReserved (x : ByteArray) (w : World) : Calls Tryz.prog 81 #[.slice (some ⟨w.heap.size, 0, none⟩) 26 26, .string x] (w.alloc (strsO zIsReserved 9)) fun e w' => e = .returned (.bool (Lib.containsS zIsReserved x)) ∧ w.alloc (strsO zIsReserved 9) = w' := by
  have h := Tryz.slices_Contains_string w.heap.size 0 26 26 zIsReserved x (w.alloc (strsO zIsReserved 9)) (by decide) (by decide) (fun j hj => by
    rw [strs_cell w _ _ j hj, getD_at hj])
  rw [show zIsReserved.take 26 = zIsReserved from rfl] at h
  exact h.mono fun e w' ⟨h1, h2⟩ => ⟨h1, h2.symm⟩
theorem wordsIsReserved (w : World) (ht : Lib.TabIs Tryz.prog w "strings.asciiSpace" .u8 Lib.asciiSpaceTab) :
    Calls Tryz.prog 82 #[] w fun e w' => e = .returned (.slice (some ⟨w.heap.size, 0, none⟩) 26 26) ∧ w.alloc (strsO zIsReserved 9) = w' := by
  have hF := splitIsReserved w ht
  clear ht
  generalize zIsReserved = zz at *
  go_enter Tryz.func82, Tryz.ntmps82
  go_wp2_with (go_at_call 93; refine hF.mono ?_; rintro e w' ⟨rfl, rfl⟩)
  go_ret
  exact ⟨rfl, rfl⟩
theorem implIsReserved (x : ByteArray) (w : World) (ht : Lib.TabIs Tryz.prog w "strings.asciiSpace" .u8 Lib.asciiSpaceTab) : Calls Tryz.prog 56 #[.string x] w fun e w' => e = .returned (.bool (Lib.containsS zIsReserved x)) ∧ Below w.heap.size w w' := by
  have hF := wordsIsReserved w ht
  have hI := inIsReserved x w
  clear ht
  generalize Lib.containsS zIsReserved x = r at *
  generalize zIsReserved = zz at *
  go_enter Tryz.func56, Tryz.ntmps56
  go_wp2_with (first
    | (go_at_call 82; refine hF.mono ?_; rintro e w' ⟨rfl, rfl⟩)
    | (go_at_call 81; refine hI.mono ?_; rintro e w' ⟨rfl, rfl⟩))
  go_ret
  exact ⟨rfl, by repeat (first | exact Below.refl _ _ | refine Below.drew ?_ | refine Below.setCell ?_ (by (try simp); try omega) _ | refine Below.alloc ?_ (by (try simp); try omega) _)⟩
theorem specIsReserved (x : ByteArray) (w : World) : Calls Tryz.prog 43 #[.string x] w fun e w' => e = .returned (.bool (Lib.containsS zIsReserved x)) ∧ Below w.heap.size w w' := by
  have hS : ∀ W, W = w.alloc (strsO zIsReserved 9) → Calls Tryz.prog 74 #[.slice (some ⟨w.heap.size, 0, none⟩) 26 26, .string x] W fun e w' => e = .returned (.bool (Lib.containsS zIsReserved x)) ∧ Below W.heap.size W w' := fun W hW => by
    subst hW
    exact specHasW zIsReserved w.heap.size 0 26 26 rfl (by decide) x _ (fun j hj => strs_cell w _ _ j hj)
  generalize Lib.containsS zIsReserved x = r at *
  go_enter Tryz.func43, Tryz.ntmps43
  go_wp2_with (go_at_call 74; refine Calls.mono (hS _ rfl) ?_; rintro e w' ⟨rfl, hb⟩)
  go_ret
  exact ⟨rfl, Below.trans (by repeat (first | exact Below.refl _ _ | refine Below.drew ?_ | refine Below.setCell ?_ (by (try simp); try omega) _ | refine Below.alloc ?_ (by (try simp); try omega) _)) (hb.mono (by simp))⟩
end Go.Proofs.YtljblaglfooclaaGreatDoor
