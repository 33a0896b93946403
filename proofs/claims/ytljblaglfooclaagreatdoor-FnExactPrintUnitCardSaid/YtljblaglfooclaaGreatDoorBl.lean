/- Proved here: what BinaryLevel gives, of the program and of the reference: the first row of words that holds the text. Condition: the listed table of white space lies in memory (the program's form alone). -/
import Derived.Test.YtljblaglfooclaaGreatDoorKw
namespace Go.Proofs.YtljblaglfooclaaGreatDoor
open Go.RowKit

/-- The words of a text, parted at white space. -/
def fieldsB (s : ByteArray) : List ByteArray := (Lib.fields s.data.toList).map fun l => ⟨l.toArray⟩
theorem splitBl (s : ByteArray) (hs : s.size ≤ 1048576) (ha : s.data.toList.all (fun b => decide (b.toNat < 128)) = true) (w : World) (ht : Lib.TabIs Tryz.prog w "strings.asciiSpace" .u8 Lib.asciiSpaceTab) :
    Calls Tryz.prog 93 #[.string s] w fun e w' => e = .returned (.slice (some ⟨w.heap.size, 0, none⟩) (fieldsB s).length (fieldsB s).length) ∧ w.alloc (strsO (fieldsB s) 9) = w' := by
  have h := Tryz.strings_Fields_laid s w (by omega) (fun j b hb => by
    have := List.all_eq_true.1 ha b (List.mem_of_getElem? hb)
    exact of_decide_eq_true this) ht
  have e1 : (Lib.fields s.data.toList).length = (fieldsB s).length := by simp [fieldsB]
  have e2 : (Lib.fields s.data.toList).map (fun l => Value.string ⟨l.toArray⟩) = (fieldsB s).map Value.string := by simp [fieldsB, Function.comp_def]
  rw [e1, e2] at h
  exact h.mono fun e w' ⟨h1, h2⟩ => ⟨h1, h2.symm⟩
theorem inG (zs : List ByteArray) (hz : zs.length ≤ 1048576) (x : ByteArray) (w : World) : Calls Tryz.prog 81 #[.slice (some ⟨w.heap.size, 0, none⟩) zs.length zs.length, .string x] (w.alloc (strsO zs 9)) fun e w' => e = .returned (.bool (Lib.containsS zs x)) ∧ w.alloc (strsO zs 9) = w' := by
  have h := Tryz.slices_Contains_string w.heap.size 0 zs.length zs.length zs x (w.alloc (strsO zs 9)) (Nat.le_refl _) (by omega) (fun j hj => by
    rw [strs_cell w _ _ j hj, getD_at hj])
  rw [List.take_length] at h
  exact h.mono fun e w' ⟨h1, h2⟩ => ⟨h1, h2.symm⟩
/-- The number of the first row that holds x, counted from i + 1 on; 0 if none does. -/
def lvl (x : ByteArray) : List (List ByteArray) → Nat → Nat
  | [], _ => 0
  | r :: rs, i => if Lib.containsS r x = true then i + 1 else lvl x rs (i + 1)
theorem lvl_none {x : ByteArray} : ∀ {zz : List (List ByteArray)} {i : Nat}, zz.flatten.all (fun z => !(z.toList == x.toList)) = true → lvl x zz i = 0
  | [], _, _ => rfl
  | r :: rs, i, h => by
    rw [List.flatten_cons, List.all_append, Bool.and_eq_true] at h
    have : Lib.containsS r x = false := by
      rw [Bool.eq_false_iff]
      intro hc
      have hm := (Lib.containsS_iff r x).1 hc
      have := List.all_eq_true.1 h.1 x hm
      simp at this
    rw [lvl, if_neg (by simp [this])]
    exact lvl_none h.2
theorem lvl_skip {x : ByteArray} : ∀ (k : Nat) (zz : List (List ByteArray)) (i : Nat), k ≤ zz.length → (∀ j (h : j < zz.length), j < k → Lib.containsS zz[j] x = false) → lvl x zz i = lvl x (zz.drop k) (i + k)
  | 0, _, _, _, _ => rfl
  | k + 1, [], _, h, _ => by simp at h
  | k + 1, r :: rs, i, h, hn => by
    have h0 := hn 0 (by simp) (by omega)
    simp only [List.getElem_cons_zero] at h0
    rw [lvl, if_neg (by simp [h0]), lvl_skip k rs (i + 1) (by simpa using h) (fun j hj hk => by
      have := hn (j + 1) (by simpa using hj) (by omega)
      simpa using this)]
    simp only [List.drop_succ_cons]
    congr 1
    omega
theorem lvl_hit {x : ByteArray} {k : Nat} {zz : List (List ByteArray)} (h : k < zz.length) (hn : ∀ j (h : j < zz.length), j < k → Lib.containsS zz[j] x = false) (hy : Lib.containsS zz[k] x = true) : lvl x zz 0 = k + 1 := by
  rw [lvl_skip k zz 0 (by omega) hn, List.drop_eq_getElem_cons h, lvl, if_pos hy]
  omega
theorem lvl_miss {x : ByteArray} {zz : List (List ByteArray)} (hn : ∀ j (h : j < zz.length), Lib.containsS zz[j] x = false) : lvl x zz 0 = 0 := by
  rw [lvl_skip zz.length zz 0 (Nat.le_refl _) (fun j h _ => hn j h), List.drop_length, lvl]
/-- The rows of BinaryLevel, and their words. -/
def rowsB : List ByteArray := [⟨#[38]⟩, ⟨#[63]⟩, ⟨#[58, 61, 32, 60, 45, 32, 58, 61, 58, 32, 60, 45, 62, 32, 43, 58, 61, 32, 45, 58, 61, 32, 42, 58, 61, 32, 47, 58, 61, 32, 37, 58, 61, 32, 94, 58, 61, 32, 124, 124, 58, 61, 32, 124, 124, 124, 58, 61, 32, 43, 43, 58, 61, 32, 45, 45, 58, 61, 32, 42, 42, 58, 61]⟩, ⟨#[]⟩, ⟨#[124, 32, 46, 124]⟩, ⟨#[60, 32, 60, 61, 32, 61, 32, 62, 61, 32, 62, 32, 126, 61, 32, 60, 60, 32, 60, 60, 61, 32, 61, 61, 32, 62, 62, 61, 32, 62, 62, 32, 126, 61, 61, 32, 61, 61, 61, 32, 126, 61, 61, 61, 32, 63, 63]⟩, ⟨#[124, 124, 32, 124, 124, 124]⟩, ⟨#[43, 32, 45, 32, 43, 43, 32, 45, 45]⟩, ⟨#[42, 32, 47, 32, 37, 32, 42, 42]⟩, ⟨#[94]⟩, ⟨#[92, 32, 45, 62, 32, 61, 62]⟩]
def zzB : List (List ByteArray) := [[⟨#[38]⟩], [⟨#[63]⟩], [⟨#[58, 61]⟩, ⟨#[60, 45]⟩, ⟨#[58, 61, 58]⟩, ⟨#[60, 45, 62]⟩, ⟨#[43, 58, 61]⟩, ⟨#[45, 58, 61]⟩, ⟨#[42, 58, 61]⟩, ⟨#[47, 58, 61]⟩, ⟨#[37, 58, 61]⟩, ⟨#[94, 58, 61]⟩, ⟨#[124, 124, 58, 61]⟩, ⟨#[124, 124, 124, 58, 61]⟩, ⟨#[43, 43, 58, 61]⟩, ⟨#[45, 45, 58, 61]⟩, ⟨#[42, 42, 58, 61]⟩], [], [⟨#[124]⟩, ⟨#[46, 124]⟩], [⟨#[60]⟩, ⟨#[60, 61]⟩, ⟨#[61]⟩, ⟨#[62, 61]⟩, ⟨#[62]⟩, ⟨#[126, 61]⟩, ⟨#[60, 60]⟩, ⟨#[60, 60, 61]⟩, ⟨#[61, 61]⟩, ⟨#[62, 62, 61]⟩, ⟨#[62, 62]⟩, ⟨#[126, 61, 61]⟩, ⟨#[61, 61, 61]⟩, ⟨#[126, 61, 61, 61]⟩, ⟨#[63, 63]⟩], [⟨#[124, 124]⟩, ⟨#[124, 124, 124]⟩], [⟨#[43]⟩, ⟨#[45]⟩, ⟨#[43, 43]⟩, ⟨#[45, 45]⟩], [⟨#[42]⟩, ⟨#[47]⟩, ⟨#[37]⟩, ⟨#[42, 42]⟩], [⟨#[94]⟩], [⟨#[92]⟩, ⟨#[45, 62]⟩, ⟨#[61, 62]⟩]]
theorem zzB_rows : rowsB.map fieldsB = zzB := by kernel_rfl
theorem rowsB_ok : rowsB.all (fun s => decide (s.size ≤ 1048576) && s.data.toList.all (fun b => decide (b.toNat < 128)) && decide ((fieldsB s).length ≤ 1048576)) = true := by kernel_rfl
theorem zzB_at {k : Nat} (h : k < rowsB.length) : zzB[k]'(by rw [← zzB_rows]; simpa using h) = fieldsB rowsB[k] := by
  simp only [← zzB_rows, List.getElem_map]
theorem zzB_len : zzB.length = 11 := rfl
theorem ret_n {a b : Nat} (h : a = b) : Ending.returned (.int .i64 (a : Int)) = .returned (.int .i64 (b : Int)) := by rw [h]
set_option maxHeartbeats 2000000 in
theorem implLevel (x : ByteArray) (w : World) (ht : Lib.TabIs Tryz.prog w "strings.asciiSpace" .u8 Lib.asciiSpaceTab) : Calls Tryz.prog 68 #[.string x] w fun e w' => e = .returned (.int .i64 (lvl x zzB 0 : Nat)) ∧ Below w.heap.size w w' := by
  have HT := Lib.hid ht
  clear ht
  have hL : rowsB.length = 11 := rfl
  have HR := Lib.hid rowsB_ok
  have HC := Lib.hid (fun j h => strs_cell w rowsB 9 j h)
  go_enter Tryz.func68, Tryz.ntmps68
  go_wp2
  go_loopw [4, 5, 9] (fun _ _ i wr => ∃ k : Nat, k ≤ 11 ∧ i = .int .i64 k ∧ Hid (∀ j (hj : j < rowsB.length), j < k → Lib.containsS (fieldsB rowsB[j]) x = false) ∧ Below (w.heap.size + 1) (w.alloc (strsO rowsB 9)) wr)
    (fun _ _ i _ => 11 - (intOf i).toNat)
  case atStart => exact ⟨0, by omega, rfl, Lib.hid (fun j _ h => by omega), Below.refl _ _⟩
  case round =>
    obtain ⟨k, hk, rfl, HN, hb⟩ := hrel
    have hbw : Below w.heap.size w wr := Below.trans (by repeat (first | exact Below.refl _ _ | refine Below.drew ?_ | refine Below.setCell ?_ (by (try simp); try omega) _ | refine Below.alloc ?_ (by (try simp); try omega) _)) (hb.mono (by omega))
    have hsz := hb.size
    simp at hsz
    by_cases h : k < 11
    · have hkl : k < rowsB.length := by rw [hL]; exact h
      have c0 := (hb.cell (p := ⟨w.heap.size, 0 + k, none⟩) (by simp)).trans (HC.out k hkl)
      rw [Nat.zero_add] at c0
      have hr := List.all_eq_true.1 HR.out rowsB[k] (List.getElem_mem hkl)
      simp only [Bool.and_eq_true, decide_eq_true_eq] at hr
      have hF := splitBl rowsB[k] hr.1.1 hr.1.2
      have hI := inG (fieldsB rowsB[k]) hr.2 x
      have hT := tab_kept HT.out hbw
      have i0 : (k : Int) < 11 := by omega
      cases hy : Lib.containsS (fieldsB rowsB[k]) x with
      | true =>
        rw [hy] at hI
        have HY : Hid (lvl x zzB 0 = k + 1) := Lib.hid (lvl_hit (by rw [zzB_len]; exact h) (fun j hj hjk => by rw [zzB_at (by rw [hL]; rwa [zzB_len] at hj)]; exact HN.out j _ hjk) (by rw [zzB_at hkl]; exact hy))
        clear hy hr
        generalize fieldsB rowsB[k] = fr at *
        generalize rowsB[k] = rk at *
        go_wp2_with (first
          | (go_at_call 93; refine (hF _ hT).mono ?_; rintro e w1 ⟨rfl, rfl⟩)
          | (go_at_call 81; refine (hI _).mono ?_; rintro e w2 ⟨rfl, rfl⟩))
        go_ret
        exact ⟨by rw [HY.out]; rfl, Below.trans hbw (Below.mono (by repeat (first | exact Below.refl _ _ | refine Below.drew ?_ | refine Below.setCell ?_ (by (try simp); try omega) _ | refine Below.alloc ?_ (by (try simp); try omega) _)) (by omega))⟩
      | false =>
        rw [hy] at hI
        have HY := Lib.hid hy
        clear hy hr
        generalize hfr : fieldsB rowsB[k] = fr at *
        generalize hrk : rowsB[k] = rk at *
        go_wp2_with (first
          | (go_at_call 93; refine (hF _ hT).mono ?_; rintro e w1 ⟨rfl, rfl⟩)
          | (go_at_call 81; refine (hI _).mono ?_; rintro e w2 ⟨rfl, rfl⟩))
        go_roundw
        case rel => exact ⟨k + 1, by omega, by go_num, Lib.hid (fun j hj hjk => (by
          rcases Nat.lt_or_ge j k with h1 | h1
          · exact HN.out j hj h1
          · obtain rfl : j = k := by omega
            rw [hrk, hfr]; exact HY.out)), hb.alloc (by omega) _⟩
        case measure => simp [intOf]; omega
    · obtain rfl : k = 11 := by omega
      have HY : Hid (lvl x zzB 0 = 0) := Lib.hid (lvl_miss (fun j hj => by rw [zzB_at (by rw [hL]; rwa [zzB_len] at hj)]; exact HN.out j _ (by rwa [zzB_len] at hj)))
      go_wp2
      go_ret
      exact ⟨by rw [HY.out]; rfl, hbw⟩
theorem lv0 (w : World) : Calls Tryz.prog 47 #[.string ⟨#[38]⟩] w fun e w' => e = .returned (.int .i64 1) ∧ Below w.heap.size w w' := by
  go_enter Tryz.func47, Tryz.ntmps47
  go_wp2
  go_ret
  exact ⟨rfl, Below.refl _ _⟩
theorem lw0 : lvl ⟨#[38]⟩ zzB 0 = 1 := by kernel_rfl
theorem lv1 (w : World) : Calls Tryz.prog 47 #[.string ⟨#[63]⟩] w fun e w' => e = .returned (.int .i64 2) ∧ Below w.heap.size w w' := by
  go_enter Tryz.func47, Tryz.ntmps47
  go_wp2
  go_ret
  exact ⟨rfl, Below.refl _ _⟩
theorem lw1 : lvl ⟨#[63]⟩ zzB 0 = 2 := by kernel_rfl
theorem lv2 (w : World) : Calls Tryz.prog 47 #[.string ⟨#[58, 61]⟩] w fun e w' => e = .returned (.int .i64 3) ∧ Below w.heap.size w w' := by
  go_enter Tryz.func47, Tryz.ntmps47
  go_wp2
  go_ret
  exact ⟨rfl, Below.refl _ _⟩
theorem lw2 : lvl ⟨#[58, 61]⟩ zzB 0 = 3 := by kernel_rfl
theorem lv3 (w : World) : Calls Tryz.prog 47 #[.string ⟨#[60, 45]⟩] w fun e w' => e = .returned (.int .i64 3) ∧ Below w.heap.size w w' := by
  go_enter Tryz.func47, Tryz.ntmps47
  go_wp2
  go_ret
  exact ⟨rfl, Below.refl _ _⟩
theorem lw3 : lvl ⟨#[60, 45]⟩ zzB 0 = 3 := by kernel_rfl
theorem lv4 (w : World) : Calls Tryz.prog 47 #[.string ⟨#[58, 61, 58]⟩] w fun e w' => e = .returned (.int .i64 3) ∧ Below w.heap.size w w' := by
  go_enter Tryz.func47, Tryz.ntmps47
  go_wp2
  go_ret
  exact ⟨rfl, Below.refl _ _⟩
theorem lw4 : lvl ⟨#[58, 61, 58]⟩ zzB 0 = 3 := by kernel_rfl
theorem lv5 (w : World) : Calls Tryz.prog 47 #[.string ⟨#[60, 45, 62]⟩] w fun e w' => e = .returned (.int .i64 3) ∧ Below w.heap.size w w' := by
  go_enter Tryz.func47, Tryz.ntmps47
  go_wp2
  go_ret
  exact ⟨rfl, Below.refl _ _⟩
theorem lw5 : lvl ⟨#[60, 45, 62]⟩ zzB 0 = 3 := by kernel_rfl
theorem lv6 (w : World) : Calls Tryz.prog 47 #[.string ⟨#[43, 58, 61]⟩] w fun e w' => e = .returned (.int .i64 3) ∧ Below w.heap.size w w' := by
  go_enter Tryz.func47, Tryz.ntmps47
  go_wp2
  go_ret
  exact ⟨rfl, Below.refl _ _⟩
theorem lw6 : lvl ⟨#[43, 58, 61]⟩ zzB 0 = 3 := by kernel_rfl
theorem lv7 (w : World) : Calls Tryz.prog 47 #[.string ⟨#[45, 58, 61]⟩] w fun e w' => e = .returned (.int .i64 3) ∧ Below w.heap.size w w' := by
  go_enter Tryz.func47, Tryz.ntmps47
  go_wp2
  go_ret
  exact ⟨rfl, Below.refl _ _⟩
theorem lw7 : lvl ⟨#[45, 58, 61]⟩ zzB 0 = 3 := by kernel_rfl
theorem lv8 (w : World) : Calls Tryz.prog 47 #[.string ⟨#[42, 58, 61]⟩] w fun e w' => e = .returned (.int .i64 3) ∧ Below w.heap.size w w' := by
  go_enter Tryz.func47, Tryz.ntmps47
  go_wp2
  go_ret
  exact ⟨rfl, Below.refl _ _⟩
theorem lw8 : lvl ⟨#[42, 58, 61]⟩ zzB 0 = 3 := by kernel_rfl
theorem lv9 (w : World) : Calls Tryz.prog 47 #[.string ⟨#[47, 58, 61]⟩] w fun e w' => e = .returned (.int .i64 3) ∧ Below w.heap.size w w' := by
  go_enter Tryz.func47, Tryz.ntmps47
  go_wp2
  go_ret
  exact ⟨rfl, Below.refl _ _⟩
theorem lw9 : lvl ⟨#[47, 58, 61]⟩ zzB 0 = 3 := by kernel_rfl
theorem lv10 (w : World) : Calls Tryz.prog 47 #[.string ⟨#[37, 58, 61]⟩] w fun e w' => e = .returned (.int .i64 3) ∧ Below w.heap.size w w' := by
  go_enter Tryz.func47, Tryz.ntmps47
  go_wp2
  go_ret
  exact ⟨rfl, Below.refl _ _⟩
theorem lw10 : lvl ⟨#[37, 58, 61]⟩ zzB 0 = 3 := by kernel_rfl
theorem lv11 (w : World) : Calls Tryz.prog 47 #[.string ⟨#[94, 58, 61]⟩] w fun e w' => e = .returned (.int .i64 3) ∧ Below w.heap.size w w' := by
  go_enter Tryz.func47, Tryz.ntmps47
  go_wp2
  go_ret
  exact ⟨rfl, Below.refl _ _⟩
theorem lw11 : lvl ⟨#[94, 58, 61]⟩ zzB 0 = 3 := by kernel_rfl
theorem lv12 (w : World) : Calls Tryz.prog 47 #[.string ⟨#[124, 124, 58, 61]⟩] w fun e w' => e = .returned (.int .i64 3) ∧ Below w.heap.size w w' := by
  go_enter Tryz.func47, Tryz.ntmps47
  go_wp2
  go_ret
  exact ⟨rfl, Below.refl _ _⟩
theorem lw12 : lvl ⟨#[124, 124, 58, 61]⟩ zzB 0 = 3 := by kernel_rfl
theorem lv13 (w : World) : Calls Tryz.prog 47 #[.string ⟨#[124, 124, 124, 58, 61]⟩] w fun e w' => e = .returned (.int .i64 3) ∧ Below w.heap.size w w' := by
  go_enter Tryz.func47, Tryz.ntmps47
  go_wp2
  go_ret
  exact ⟨rfl, Below.refl _ _⟩
theorem lw13 : lvl ⟨#[124, 124, 124, 58, 61]⟩ zzB 0 = 3 := by kernel_rfl
theorem lv14 (w : World) : Calls Tryz.prog 47 #[.string ⟨#[43, 43, 58, 61]⟩] w fun e w' => e = .returned (.int .i64 3) ∧ Below w.heap.size w w' := by
  go_enter Tryz.func47, Tryz.ntmps47
  go_wp2
  go_ret
  exact ⟨rfl, Below.refl _ _⟩
theorem lw14 : lvl ⟨#[43, 43, 58, 61]⟩ zzB 0 = 3 := by kernel_rfl
theorem lv15 (w : World) : Calls Tryz.prog 47 #[.string ⟨#[45, 45, 58, 61]⟩] w fun e w' => e = .returned (.int .i64 3) ∧ Below w.heap.size w w' := by
  go_enter Tryz.func47, Tryz.ntmps47
  go_wp2
  go_ret
  exact ⟨rfl, Below.refl _ _⟩
theorem lw15 : lvl ⟨#[45, 45, 58, 61]⟩ zzB 0 = 3 := by kernel_rfl
theorem lv16 (w : World) : Calls Tryz.prog 47 #[.string ⟨#[42, 42, 58, 61]⟩] w fun e w' => e = .returned (.int .i64 3) ∧ Below w.heap.size w w' := by
  go_enter Tryz.func47, Tryz.ntmps47
  go_wp2
  go_ret
  exact ⟨rfl, Below.refl _ _⟩
theorem lw16 : lvl ⟨#[42, 42, 58, 61]⟩ zzB 0 = 3 := by kernel_rfl
theorem lv17 (w : World) : Calls Tryz.prog 47 #[.string ⟨#[124]⟩] w fun e w' => e = .returned (.int .i64 5) ∧ Below w.heap.size w w' := by
  go_enter Tryz.func47, Tryz.ntmps47
  go_wp2
  go_ret
  exact ⟨rfl, Below.refl _ _⟩
theorem lw17 : lvl ⟨#[124]⟩ zzB 0 = 5 := by kernel_rfl
theorem lv18 (w : World) : Calls Tryz.prog 47 #[.string ⟨#[46, 124]⟩] w fun e w' => e = .returned (.int .i64 5) ∧ Below w.heap.size w w' := by
  go_enter Tryz.func47, Tryz.ntmps47
  go_wp2
  go_ret
  exact ⟨rfl, Below.refl _ _⟩
theorem lw18 : lvl ⟨#[46, 124]⟩ zzB 0 = 5 := by kernel_rfl
theorem lv19 (w : World) : Calls Tryz.prog 47 #[.string ⟨#[60]⟩] w fun e w' => e = .returned (.int .i64 6) ∧ Below w.heap.size w w' := by
  go_enter Tryz.func47, Tryz.ntmps47
  go_wp2
  go_ret
  exact ⟨rfl, Below.refl _ _⟩
theorem lw19 : lvl ⟨#[60]⟩ zzB 0 = 6 := by kernel_rfl
theorem lv20 (w : World) : Calls Tryz.prog 47 #[.string ⟨#[60, 61]⟩] w fun e w' => e = .returned (.int .i64 6) ∧ Below w.heap.size w w' := by
  go_enter Tryz.func47, Tryz.ntmps47
  go_wp2
  go_ret
  exact ⟨rfl, Below.refl _ _⟩
theorem lw20 : lvl ⟨#[60, 61]⟩ zzB 0 = 6 := by kernel_rfl
theorem lv21 (w : World) : Calls Tryz.prog 47 #[.string ⟨#[61]⟩] w fun e w' => e = .returned (.int .i64 6) ∧ Below w.heap.size w w' := by
  go_enter Tryz.func47, Tryz.ntmps47
  go_wp2
  go_ret
  exact ⟨rfl, Below.refl _ _⟩
theorem lw21 : lvl ⟨#[61]⟩ zzB 0 = 6 := by kernel_rfl
theorem lv22 (w : World) : Calls Tryz.prog 47 #[.string ⟨#[62, 61]⟩] w fun e w' => e = .returned (.int .i64 6) ∧ Below w.heap.size w w' := by
  go_enter Tryz.func47, Tryz.ntmps47
  go_wp2
  go_ret
  exact ⟨rfl, Below.refl _ _⟩
theorem lw22 : lvl ⟨#[62, 61]⟩ zzB 0 = 6 := by kernel_rfl
theorem lv23 (w : World) : Calls Tryz.prog 47 #[.string ⟨#[62]⟩] w fun e w' => e = .returned (.int .i64 6) ∧ Below w.heap.size w w' := by
  go_enter Tryz.func47, Tryz.ntmps47
  go_wp2
  go_ret
  exact ⟨rfl, Below.refl _ _⟩
theorem lw23 : lvl ⟨#[62]⟩ zzB 0 = 6 := by kernel_rfl
theorem lv24 (w : World) : Calls Tryz.prog 47 #[.string ⟨#[126, 61]⟩] w fun e w' => e = .returned (.int .i64 6) ∧ Below w.heap.size w w' := by
  go_enter Tryz.func47, Tryz.ntmps47
  go_wp2
  go_ret
  exact ⟨rfl, Below.refl _ _⟩
theorem lw24 : lvl ⟨#[126, 61]⟩ zzB 0 = 6 := by kernel_rfl
theorem lv25 (w : World) : Calls Tryz.prog 47 #[.string ⟨#[60, 60]⟩] w fun e w' => e = .returned (.int .i64 6) ∧ Below w.heap.size w w' := by
  go_enter Tryz.func47, Tryz.ntmps47
  go_wp2
  go_ret
  exact ⟨rfl, Below.refl _ _⟩
theorem lw25 : lvl ⟨#[60, 60]⟩ zzB 0 = 6 := by kernel_rfl
theorem lv26 (w : World) : Calls Tryz.prog 47 #[.string ⟨#[60, 60, 61]⟩] w fun e w' => e = .returned (.int .i64 6) ∧ Below w.heap.size w w' := by
  go_enter Tryz.func47, Tryz.ntmps47
  go_wp2
  go_ret
  exact ⟨rfl, Below.refl _ _⟩
theorem lw26 : lvl ⟨#[60, 60, 61]⟩ zzB 0 = 6 := by kernel_rfl
theorem lv27 (w : World) : Calls Tryz.prog 47 #[.string ⟨#[61, 61]⟩] w fun e w' => e = .returned (.int .i64 6) ∧ Below w.heap.size w w' := by
  go_enter Tryz.func47, Tryz.ntmps47
  go_wp2
  go_ret
  exact ⟨rfl, Below.refl _ _⟩
theorem lw27 : lvl ⟨#[61, 61]⟩ zzB 0 = 6 := by kernel_rfl
theorem lv28 (w : World) : Calls Tryz.prog 47 #[.string ⟨#[62, 62, 61]⟩] w fun e w' => e = .returned (.int .i64 6) ∧ Below w.heap.size w w' := by
  go_enter Tryz.func47, Tryz.ntmps47
  go_wp2
  go_ret
  exact ⟨rfl, Below.refl _ _⟩
theorem lw28 : lvl ⟨#[62, 62, 61]⟩ zzB 0 = 6 := by kernel_rfl
theorem lv29 (w : World) : Calls Tryz.prog 47 #[.string ⟨#[62, 62]⟩] w fun e w' => e = .returned (.int .i64 6) ∧ Below w.heap.size w w' := by
  go_enter Tryz.func47, Tryz.ntmps47
  go_wp2
  go_ret
  exact ⟨rfl, Below.refl _ _⟩
theorem lw29 : lvl ⟨#[62, 62]⟩ zzB 0 = 6 := by kernel_rfl
theorem lv30 (w : World) : Calls Tryz.prog 47 #[.string ⟨#[126, 61, 61]⟩] w fun e w' => e = .returned (.int .i64 6) ∧ Below w.heap.size w w' := by
  go_enter Tryz.func47, Tryz.ntmps47
  go_wp2
  go_ret
  exact ⟨rfl, Below.refl _ _⟩
theorem lw30 : lvl ⟨#[126, 61, 61]⟩ zzB 0 = 6 := by kernel_rfl
theorem lv31 (w : World) : Calls Tryz.prog 47 #[.string ⟨#[61, 61, 61]⟩] w fun e w' => e = .returned (.int .i64 6) ∧ Below w.heap.size w w' := by
  go_enter Tryz.func47, Tryz.ntmps47
  go_wp2
  go_ret
  exact ⟨rfl, Below.refl _ _⟩
theorem lw31 : lvl ⟨#[61, 61, 61]⟩ zzB 0 = 6 := by kernel_rfl
theorem lv32 (w : World) : Calls Tryz.prog 47 #[.string ⟨#[126, 61, 61, 61]⟩] w fun e w' => e = .returned (.int .i64 6) ∧ Below w.heap.size w w' := by
  go_enter Tryz.func47, Tryz.ntmps47
  go_wp2
  go_ret
  exact ⟨rfl, Below.refl _ _⟩
theorem lw32 : lvl ⟨#[126, 61, 61, 61]⟩ zzB 0 = 6 := by kernel_rfl
theorem lv33 (w : World) : Calls Tryz.prog 47 #[.string ⟨#[63, 63]⟩] w fun e w' => e = .returned (.int .i64 6) ∧ Below w.heap.size w w' := by
  go_enter Tryz.func47, Tryz.ntmps47
  go_wp2
  go_ret
  exact ⟨rfl, Below.refl _ _⟩
theorem lw33 : lvl ⟨#[63, 63]⟩ zzB 0 = 6 := by kernel_rfl
theorem lv34 (w : World) : Calls Tryz.prog 47 #[.string ⟨#[124, 124]⟩] w fun e w' => e = .returned (.int .i64 7) ∧ Below w.heap.size w w' := by
  go_enter Tryz.func47, Tryz.ntmps47
  go_wp2
  go_ret
  exact ⟨rfl, Below.refl _ _⟩
theorem lw34 : lvl ⟨#[124, 124]⟩ zzB 0 = 7 := by kernel_rfl
theorem lv35 (w : World) : Calls Tryz.prog 47 #[.string ⟨#[124, 124, 124]⟩] w fun e w' => e = .returned (.int .i64 7) ∧ Below w.heap.size w w' := by
  go_enter Tryz.func47, Tryz.ntmps47
  go_wp2
  go_ret
  exact ⟨rfl, Below.refl _ _⟩
theorem lw35 : lvl ⟨#[124, 124, 124]⟩ zzB 0 = 7 := by kernel_rfl
theorem lv36 (w : World) : Calls Tryz.prog 47 #[.string ⟨#[43]⟩] w fun e w' => e = .returned (.int .i64 8) ∧ Below w.heap.size w w' := by
  go_enter Tryz.func47, Tryz.ntmps47
  go_wp2
  go_ret
  exact ⟨rfl, Below.refl _ _⟩
theorem lw36 : lvl ⟨#[43]⟩ zzB 0 = 8 := by kernel_rfl
theorem lv37 (w : World) : Calls Tryz.prog 47 #[.string ⟨#[45]⟩] w fun e w' => e = .returned (.int .i64 8) ∧ Below w.heap.size w w' := by
  go_enter Tryz.func47, Tryz.ntmps47
  go_wp2
  go_ret
  exact ⟨rfl, Below.refl _ _⟩
theorem lw37 : lvl ⟨#[45]⟩ zzB 0 = 8 := by kernel_rfl
theorem lv38 (w : World) : Calls Tryz.prog 47 #[.string ⟨#[43, 43]⟩] w fun e w' => e = .returned (.int .i64 8) ∧ Below w.heap.size w w' := by
  go_enter Tryz.func47, Tryz.ntmps47
  go_wp2
  go_ret
  exact ⟨rfl, Below.refl _ _⟩
theorem lw38 : lvl ⟨#[43, 43]⟩ zzB 0 = 8 := by kernel_rfl
theorem lv39 (w : World) : Calls Tryz.prog 47 #[.string ⟨#[45, 45]⟩] w fun e w' => e = .returned (.int .i64 8) ∧ Below w.heap.size w w' := by
  go_enter Tryz.func47, Tryz.ntmps47
  go_wp2
  go_ret
  exact ⟨rfl, Below.refl _ _⟩
theorem lw39 : lvl ⟨#[45, 45]⟩ zzB 0 = 8 := by kernel_rfl
theorem lv40 (w : World) : Calls Tryz.prog 47 #[.string ⟨#[42]⟩] w fun e w' => e = .returned (.int .i64 9) ∧ Below w.heap.size w w' := by
  go_enter Tryz.func47, Tryz.ntmps47
  go_wp2
  go_ret
  exact ⟨rfl, Below.refl _ _⟩
theorem lw40 : lvl ⟨#[42]⟩ zzB 0 = 9 := by kernel_rfl
theorem lv41 (w : World) : Calls Tryz.prog 47 #[.string ⟨#[47]⟩] w fun e w' => e = .returned (.int .i64 9) ∧ Below w.heap.size w w' := by
  go_enter Tryz.func47, Tryz.ntmps47
  go_wp2
  go_ret
  exact ⟨rfl, Below.refl _ _⟩
theorem lw41 : lvl ⟨#[47]⟩ zzB 0 = 9 := by kernel_rfl
theorem lv42 (w : World) : Calls Tryz.prog 47 #[.string ⟨#[37]⟩] w fun e w' => e = .returned (.int .i64 9) ∧ Below w.heap.size w w' := by
  go_enter Tryz.func47, Tryz.ntmps47
  go_wp2
  go_ret
  exact ⟨rfl, Below.refl _ _⟩
theorem lw42 : lvl ⟨#[37]⟩ zzB 0 = 9 := by kernel_rfl
theorem lv43 (w : World) : Calls Tryz.prog 47 #[.string ⟨#[42, 42]⟩] w fun e w' => e = .returned (.int .i64 9) ∧ Below w.heap.size w w' := by
  go_enter Tryz.func47, Tryz.ntmps47
  go_wp2
  go_ret
  exact ⟨rfl, Below.refl _ _⟩
theorem lw43 : lvl ⟨#[42, 42]⟩ zzB 0 = 9 := by kernel_rfl
theorem lv44 (w : World) : Calls Tryz.prog 47 #[.string ⟨#[94]⟩] w fun e w' => e = .returned (.int .i64 10) ∧ Below w.heap.size w w' := by
  go_enter Tryz.func47, Tryz.ntmps47
  go_wp2
  go_ret
  exact ⟨rfl, Below.refl _ _⟩
theorem lw44 : lvl ⟨#[94]⟩ zzB 0 = 10 := by kernel_rfl
theorem lv45 (w : World) : Calls Tryz.prog 47 #[.string ⟨#[92]⟩] w fun e w' => e = .returned (.int .i64 11) ∧ Below w.heap.size w w' := by
  go_enter Tryz.func47, Tryz.ntmps47
  go_wp2
  go_ret
  exact ⟨rfl, Below.refl _ _⟩
theorem lw45 : lvl ⟨#[92]⟩ zzB 0 = 11 := by kernel_rfl
theorem lv46 (w : World) : Calls Tryz.prog 47 #[.string ⟨#[45, 62]⟩] w fun e w' => e = .returned (.int .i64 11) ∧ Below w.heap.size w w' := by
  go_enter Tryz.func47, Tryz.ntmps47
  go_wp2
  go_ret
  exact ⟨rfl, Below.refl _ _⟩
theorem lw46 : lvl ⟨#[45, 62]⟩ zzB 0 = 11 := by kernel_rfl
theorem lv47 (w : World) : Calls Tryz.prog 47 #[.string ⟨#[61, 62]⟩] w fun e w' => e = .returned (.int .i64 11) ∧ Below w.heap.size w w' := by
  go_enter Tryz.func47, Tryz.ntmps47
  go_wp2
  go_ret
  exact ⟨rfl, Below.refl _ _⟩
theorem lw47 : lvl ⟨#[61, 62]⟩ zzB 0 = 11 := by kernel_rfl
theorem lvNone (x : ByteArray) (h0 : (x.toList == [38]) = false) (h1 : (x.toList == [63]) = false) (h2 : (x.toList == [58, 61]) = false) (h3 : (x.toList == [60, 45]) = false) (h4 : (x.toList == [58, 61, 58]) = false) (h5 : (x.toList == [60, 45, 62]) = false) (h6 : (x.toList == [43, 58, 61]) = false) (h7 : (x.toList == [45, 58, 61]) = false) (h8 : (x.toList == [42, 58, 61]) = false) (h9 : (x.toList == [47, 58, 61]) = false) (h10 : (x.toList == [37, 58, 61]) = false) (h11 : (x.toList == [94, 58, 61]) = false) (h12 : (x.toList == [124, 124, 58, 61]) = false) (h13 : (x.toList == [124, 124, 124, 58, 61]) = false) (h14 : (x.toList == [43, 43, 58, 61]) = false) (h15 : (x.toList == [45, 45, 58, 61]) = false) (h16 : (x.toList == [42, 42, 58, 61]) = false) (h17 : (x.toList == [124]) = false) (h18 : (x.toList == [46, 124]) = false) (h19 : (x.toList == [60]) = false) (h20 : (x.toList == [60, 61]) = false) (h21 : (x.toList == [61]) = false) (h22 : (x.toList == [62, 61]) = false) (h23 : (x.toList == [62]) = false) (h24 : (x.toList == [126, 61]) = false) (h25 : (x.toList == [60, 60]) = false) (h26 : (x.toList == [60, 60, 61]) = false) (h27 : (x.toList == [61, 61]) = false) (h28 : (x.toList == [62, 62, 61]) = false) (h29 : (x.toList == [62, 62]) = false) (h30 : (x.toList == [126, 61, 61]) = false) (h31 : (x.toList == [61, 61, 61]) = false) (h32 : (x.toList == [126, 61, 61, 61]) = false) (h33 : (x.toList == [63, 63]) = false) (h34 : (x.toList == [124, 124]) = false) (h35 : (x.toList == [124, 124, 124]) = false) (h36 : (x.toList == [43]) = false) (h37 : (x.toList == [45]) = false) (h38 : (x.toList == [43, 43]) = false) (h39 : (x.toList == [45, 45]) = false) (h40 : (x.toList == [42]) = false) (h41 : (x.toList == [47]) = false) (h42 : (x.toList == [37]) = false) (h43 : (x.toList == [42, 42]) = false) (h44 : (x.toList == [94]) = false) (h45 : (x.toList == [92]) = false) (h46 : (x.toList == [45, 62]) = false) (h47 : (x.toList == [61, 62]) = false) (w : World) : Calls Tryz.prog 47 #[.string x] w fun e w' => e = .returned (.int .i64 0) ∧ Below w.heap.size w w' := by
  go_enter Tryz.func47, Tryz.ntmps47
  go_wp2
  go_ret
  exact ⟨rfl, Below.refl _ _⟩
theorem toList_lit (l : List UInt8) : (⟨l.toArray⟩ : ByteArray).toList = l := by rw [ByteArray.toList_eq]
theorem ne_lit {x : ByteArray} {l : List UInt8} (h : ¬ x = ⟨l.toArray⟩) : (x.toList == l) = false := by
  have := teq_no h
  rw [toList_lit l] at this
  exact this
theorem specLevel (x : ByteArray) (w : World) : Calls Tryz.prog 47 #[.string x] w fun e w' => e = .returned (.int .i64 (lvl x zzB 0 : Nat)) ∧ Below w.heap.size w w' := by
  by_cases h0 : x = ⟨#[38]⟩
  · subst h0; rw [lw0]; exact lv0 w
  by_cases h1 : x = ⟨#[63]⟩
  · subst h1; rw [lw1]; exact lv1 w
  by_cases h2 : x = ⟨#[58, 61]⟩
  · subst h2; rw [lw2]; exact lv2 w
  by_cases h3 : x = ⟨#[60, 45]⟩
  · subst h3; rw [lw3]; exact lv3 w
  by_cases h4 : x = ⟨#[58, 61, 58]⟩
  · subst h4; rw [lw4]; exact lv4 w
  by_cases h5 : x = ⟨#[60, 45, 62]⟩
  · subst h5; rw [lw5]; exact lv5 w
  by_cases h6 : x = ⟨#[43, 58, 61]⟩
  · subst h6; rw [lw6]; exact lv6 w
  by_cases h7 : x = ⟨#[45, 58, 61]⟩
  · subst h7; rw [lw7]; exact lv7 w
  by_cases h8 : x = ⟨#[42, 58, 61]⟩
  · subst h8; rw [lw8]; exact lv8 w
  by_cases h9 : x = ⟨#[47, 58, 61]⟩
  · subst h9; rw [lw9]; exact lv9 w
  by_cases h10 : x = ⟨#[37, 58, 61]⟩
  · subst h10; rw [lw10]; exact lv10 w
  by_cases h11 : x = ⟨#[94, 58, 61]⟩
  · subst h11; rw [lw11]; exact lv11 w
  by_cases h12 : x = ⟨#[124, 124, 58, 61]⟩
  · subst h12; rw [lw12]; exact lv12 w
  by_cases h13 : x = ⟨#[124, 124, 124, 58, 61]⟩
  · subst h13; rw [lw13]; exact lv13 w
  by_cases h14 : x = ⟨#[43, 43, 58, 61]⟩
  · subst h14; rw [lw14]; exact lv14 w
  by_cases h15 : x = ⟨#[45, 45, 58, 61]⟩
  · subst h15; rw [lw15]; exact lv15 w
  by_cases h16 : x = ⟨#[42, 42, 58, 61]⟩
  · subst h16; rw [lw16]; exact lv16 w
  by_cases h17 : x = ⟨#[124]⟩
  · subst h17; rw [lw17]; exact lv17 w
  by_cases h18 : x = ⟨#[46, 124]⟩
  · subst h18; rw [lw18]; exact lv18 w
  by_cases h19 : x = ⟨#[60]⟩
  · subst h19; rw [lw19]; exact lv19 w
  by_cases h20 : x = ⟨#[60, 61]⟩
  · subst h20; rw [lw20]; exact lv20 w
  by_cases h21 : x = ⟨#[61]⟩
  · subst h21; rw [lw21]; exact lv21 w
  by_cases h22 : x = ⟨#[62, 61]⟩
  · subst h22; rw [lw22]; exact lv22 w
  by_cases h23 : x = ⟨#[62]⟩
  · subst h23; rw [lw23]; exact lv23 w
  by_cases h24 : x = ⟨#[126, 61]⟩
  · subst h24; rw [lw24]; exact lv24 w
  by_cases h25 : x = ⟨#[60, 60]⟩
  · subst h25; rw [lw25]; exact lv25 w
  by_cases h26 : x = ⟨#[60, 60, 61]⟩
  · subst h26; rw [lw26]; exact lv26 w
  by_cases h27 : x = ⟨#[61, 61]⟩
  · subst h27; rw [lw27]; exact lv27 w
  by_cases h28 : x = ⟨#[62, 62, 61]⟩
  · subst h28; rw [lw28]; exact lv28 w
  by_cases h29 : x = ⟨#[62, 62]⟩
  · subst h29; rw [lw29]; exact lv29 w
  by_cases h30 : x = ⟨#[126, 61, 61]⟩
  · subst h30; rw [lw30]; exact lv30 w
  by_cases h31 : x = ⟨#[61, 61, 61]⟩
  · subst h31; rw [lw31]; exact lv31 w
  by_cases h32 : x = ⟨#[126, 61, 61, 61]⟩
  · subst h32; rw [lw32]; exact lv32 w
  by_cases h33 : x = ⟨#[63, 63]⟩
  · subst h33; rw [lw33]; exact lv33 w
  by_cases h34 : x = ⟨#[124, 124]⟩
  · subst h34; rw [lw34]; exact lv34 w
  by_cases h35 : x = ⟨#[124, 124, 124]⟩
  · subst h35; rw [lw35]; exact lv35 w
  by_cases h36 : x = ⟨#[43]⟩
  · subst h36; rw [lw36]; exact lv36 w
  by_cases h37 : x = ⟨#[45]⟩
  · subst h37; rw [lw37]; exact lv37 w
  by_cases h38 : x = ⟨#[43, 43]⟩
  · subst h38; rw [lw38]; exact lv38 w
  by_cases h39 : x = ⟨#[45, 45]⟩
  · subst h39; rw [lw39]; exact lv39 w
  by_cases h40 : x = ⟨#[42]⟩
  · subst h40; rw [lw40]; exact lv40 w
  by_cases h41 : x = ⟨#[47]⟩
  · subst h41; rw [lw41]; exact lv41 w
  by_cases h42 : x = ⟨#[37]⟩
  · subst h42; rw [lw42]; exact lv42 w
  by_cases h43 : x = ⟨#[42, 42]⟩
  · subst h43; rw [lw43]; exact lv43 w
  by_cases h44 : x = ⟨#[94]⟩
  · subst h44; rw [lw44]; exact lv44 w
  by_cases h45 : x = ⟨#[92]⟩
  · subst h45; rw [lw45]; exact lv45 w
  by_cases h46 : x = ⟨#[45, 62]⟩
  · subst h46; rw [lw46]; exact lv46 w
  by_cases h47 : x = ⟨#[61, 62]⟩
  · subst h47; rw [lw47]; exact lv47 w
  have g0 := ne_lit (l := [38]) h0
  have g1 := ne_lit (l := [63]) h1
  have g2 := ne_lit (l := [58, 61]) h2
  have g3 := ne_lit (l := [60, 45]) h3
  have g4 := ne_lit (l := [58, 61, 58]) h4
  have g5 := ne_lit (l := [60, 45, 62]) h5
  have g6 := ne_lit (l := [43, 58, 61]) h6
  have g7 := ne_lit (l := [45, 58, 61]) h7
  have g8 := ne_lit (l := [42, 58, 61]) h8
  have g9 := ne_lit (l := [47, 58, 61]) h9
  have g10 := ne_lit (l := [37, 58, 61]) h10
  have g11 := ne_lit (l := [94, 58, 61]) h11
  have g12 := ne_lit (l := [124, 124, 58, 61]) h12
  have g13 := ne_lit (l := [124, 124, 124, 58, 61]) h13
  have g14 := ne_lit (l := [43, 43, 58, 61]) h14
  have g15 := ne_lit (l := [45, 45, 58, 61]) h15
  have g16 := ne_lit (l := [42, 42, 58, 61]) h16
  have g17 := ne_lit (l := [124]) h17
  have g18 := ne_lit (l := [46, 124]) h18
  have g19 := ne_lit (l := [60]) h19
  have g20 := ne_lit (l := [60, 61]) h20
  have g21 := ne_lit (l := [61]) h21
  have g22 := ne_lit (l := [62, 61]) h22
  have g23 := ne_lit (l := [62]) h23
  have g24 := ne_lit (l := [126, 61]) h24
  have g25 := ne_lit (l := [60, 60]) h25
  have g26 := ne_lit (l := [60, 60, 61]) h26
  have g27 := ne_lit (l := [61, 61]) h27
  have g28 := ne_lit (l := [62, 62, 61]) h28
  have g29 := ne_lit (l := [62, 62]) h29
  have g30 := ne_lit (l := [126, 61, 61]) h30
  have g31 := ne_lit (l := [61, 61, 61]) h31
  have g32 := ne_lit (l := [126, 61, 61, 61]) h32
  have g33 := ne_lit (l := [63, 63]) h33
  have g34 := ne_lit (l := [124, 124]) h34
  have g35 := ne_lit (l := [124, 124, 124]) h35
  have g36 := ne_lit (l := [43]) h36
  have g37 := ne_lit (l := [45]) h37
  have g38 := ne_lit (l := [43, 43]) h38
  have g39 := ne_lit (l := [45, 45]) h39
  have g40 := ne_lit (l := [42]) h40
  have g41 := ne_lit (l := [47]) h41
  have g42 := ne_lit (l := [37]) h42
  have g43 := ne_lit (l := [42, 42]) h43
  have g44 := ne_lit (l := [94]) h44
  have g45 := ne_lit (l := [92]) h45
  have g46 := ne_lit (l := [45, 62]) h46
  have g47 := ne_lit (l := [61, 62]) h47
  rw [lvl_none (by
    rw [List.all_eq_true]
    intro z hz
    rw [Bool.not_eq_true']
    have hz' : z ∈ [⟨#[38]⟩, ⟨#[63]⟩, ⟨#[58, 61]⟩, ⟨#[60, 45]⟩, ⟨#[58, 61, 58]⟩, ⟨#[60, 45, 62]⟩, ⟨#[43, 58, 61]⟩, ⟨#[45, 58, 61]⟩, ⟨#[42, 58, 61]⟩, ⟨#[47, 58, 61]⟩, ⟨#[37, 58, 61]⟩, ⟨#[94, 58, 61]⟩, ⟨#[124, 124, 58, 61]⟩, ⟨#[124, 124, 124, 58, 61]⟩, ⟨#[43, 43, 58, 61]⟩, ⟨#[45, 45, 58, 61]⟩, ⟨#[42, 42, 58, 61]⟩, ⟨#[124]⟩, ⟨#[46, 124]⟩, ⟨#[60]⟩, ⟨#[60, 61]⟩, ⟨#[61]⟩, ⟨#[62, 61]⟩, ⟨#[62]⟩, ⟨#[126, 61]⟩, ⟨#[60, 60]⟩, ⟨#[60, 60, 61]⟩, ⟨#[61, 61]⟩, ⟨#[62, 62, 61]⟩, ⟨#[62, 62]⟩, ⟨#[126, 61, 61]⟩, ⟨#[61, 61, 61]⟩, ⟨#[126, 61, 61, 61]⟩, ⟨#[63, 63]⟩, ⟨#[124, 124]⟩, ⟨#[124, 124, 124]⟩, ⟨#[43]⟩, ⟨#[45]⟩, ⟨#[43, 43]⟩, ⟨#[45, 45]⟩, ⟨#[42]⟩, ⟨#[47]⟩, ⟨#[37]⟩, ⟨#[42, 42]⟩, ⟨#[94]⟩, ⟨#[92]⟩, ⟨#[45, 62]⟩, ⟨#[61, 62]⟩] := hz
    simp only [List.mem_cons, List.not_mem_nil, or_false] at hz'
    rcases hz' with rfl | rfl | rfl | rfl | rfl | rfl | rfl | rfl | rfl | rfl | rfl | rfl | rfl | rfl | rfl | rfl | rfl | rfl | rfl | rfl | rfl | rfl | rfl | rfl | rfl | rfl | rfl | rfl | rfl | rfl | rfl | rfl | rfl | rfl | rfl | rfl | rfl | rfl | rfl | rfl | rfl | rfl | rfl | rfl | rfl | rfl | rfl | rfl
    all_goals (rw [teq']; exact decide_eq_false (fun e => by first | exact h0 e.symm | exact h1 e.symm | exact h2 e.symm | exact h3 e.symm | exact h4 e.symm | exact h5 e.symm | exact h6 e.symm | exact h7 e.symm | exact h8 e.symm | exact h9 e.symm | exact h10 e.symm | exact h11 e.symm | exact h12 e.symm | exact h13 e.symm | exact h14 e.symm | exact h15 e.symm | exact h16 e.symm | exact h17 e.symm | exact h18 e.symm | exact h19 e.symm | exact h20 e.symm | exact h21 e.symm | exact h22 e.symm | exact h23 e.symm | exact h24 e.symm | exact h25 e.symm | exact h26 e.symm | exact h27 e.symm | exact h28 e.symm | exact h29 e.symm | exact h30 e.symm | exact h31 e.symm | exact h32 e.symm | exact h33 e.symm | exact h34 e.symm | exact h35 e.symm | exact h36 e.symm | exact h37 e.symm | exact h38 e.symm | exact h39 e.symm | exact h40 e.symm | exact h41 e.symm | exact h42 e.symm | exact h43 e.symm | exact h44 e.symm | exact h45 e.symm | exact h46 e.symm | exact h47 e.symm)))]
  exact lvNone x g0 g1 g2 g3 g4 g5 g6 g7 g8 g9 g10 g11 g12 g13 g14 g15 g16 g17 g18 g19 g20 g21 g22 g23 g24 g25 g26 g27 g28 g29 g30 g31 g32 g33 g34 g35 g36 g37 g38 g39 g40 g41 g42 g43 g44 g45 g46 g47 w
end Go.Proofs.YtljblaglfooclaaGreatDoor
