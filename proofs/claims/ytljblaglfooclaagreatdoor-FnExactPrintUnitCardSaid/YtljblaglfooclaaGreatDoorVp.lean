/- Proved here: which units are valid, in plain data; the tests of lists of names of the program and of the reference. Condition: the names fit; the listed table of white space lies in memory (the program's form alone). -/
import Derived.Test.YtljblaglfooclaaGreatDoorUn
import Derived.Test.YtljblaglfooclaaGreatDoorNm
import Derived.Test.YtljblaglfooclaaGreatDoorVh
namespace Go.Proofs.YtljblaglfooclaaGreatDoor
open Go.RowKit

/-- A valid record type. -/
def vldR (a : Rt) : Bool := decide (a.f.length ≤ 6) && (nameB a.t && (a.f.all nameB && decide (0 ≤ a.l)))
/-- A valid procedure. -/
def vldP (a : Pd) : Bool := decide (a.p.length ≤ 6) && (decide (a.q.length ≤ 8) && (nameB a.t && (a.p.all nameB && (a.q.all nameB && (decide (0 ≤ a.l) && (decide (a.x.k = 14) && X.vldE X.wdB a.x))))))
/-- A valid unit. -/
def vldU (u : Un) : Bool := decide (u.r.length ≤ 8) && (decide (u.g.length ≤ 12) && (decide (u.p.length ≤ 12) && (u.g.all nameB && (u.r.all vldR && u.p.all vldP))))
theorem all_not {α : Type} {f : α → Bool} {l : List α} {i : Nat} (h : i < l.length) (hf : f l[i] = false) : l.all f = false := by
  rw [List.all_eq_false]
  exact ⟨l[i], List.getElem_mem h, by simp [hf]⟩
theorem all_yes {α : Type} {f : α → Bool} {l : List α} (h : ∀ i (hi : i < l.length), f l[i] = true) : l.all f = true := by
  rw [List.all_eq_true]
  intro x hx
  obtain ⟨i, hi, rfl⟩ := List.getElem_of_mem hx
  exact h i hi
theorem vldU_r {u : Un} {i : Nat} (h : i < u.r.length) (hf : vldR u.r[i] = false) : vldU u = false := by
  unfold vldU; rw [all_not h hf]; simp
theorem vldU_p {u : Un} {i : Nat} (h : i < u.p.length) (hf : vldP u.p[i] = false) : vldU u = false := by
  unfold vldU; rw [all_not h hf]; simp
set_option maxHeartbeats 2000000 in
theorem implNames (l : List ByteArray) (s : Value) (P : Nat → Prop) (w : World) (hK : Sr w P s l) (hP : ∀ b, P b → b < w.heap.size) (hl : l.length ≤ 1048576) (hw : ∀ i (h : i < l.length), l[i].size ≤ 1048576) (ht : Lib.TabIs Tryz.prog w "strings.asciiSpace" .u8 Lib.asciiSpaceTab) :
    Calls Tryz.prog 33 #[s] w fun e w' => e = .returned (.bool (l.all nameB)) ∧ Below w.heap.size w w' := by
  obtain ⟨A, cap, rfl⟩ := hK.form
  go_enter Tryz.func33, Tryz.ntmps33
  go_wp2_with fail
  go_loopw [4, 7] (fun _ i wr => ∃ j : Nat, i = .int .i64 j ∧ Hid (∀ i (h : i < l.length), i < j → nameB l[i] = true) ∧ j ≤ l.length ∧ Below w.heap.size w wr) (fun _ i _ => l.length - (intOf i).toNat)
  case atStart => exact ⟨0, rfl, Lib.hid (fun i _ h => by omega), by omega, Below.refl _ _⟩
  case round =>
    obtain ⟨j, rfl, HM, hj, hb⟩ := hrel
    have hsz := hb.size
    by_cases hlt : j < l.length
    · have i1 : (j : Int) < (l.length : Int) := by omega
      obtain ⟨b, o, rfl, hPb, c0⟩ := Sr.at_ (hK.below hb hP) hlt
      have hC := implName l[j] (hw j hlt) wr (tab_kept ht hb)
      cases hn : nameB l[j]
      · rw [hn] at hC
        have HN := Lib.hid (all_not (f := nameB) hlt hn)
        have HC := Lib.hid hC
        clear hC hn HM
        go_wp2_with (go_at_call 34; refine HC.out.mono ?_; rintro e w1 ⟨rfl, hb1⟩)
        go_ret
        exact ⟨ret_b HN.out.symm, hb.trans (hb1.mono hsz)⟩
      · rw [hn] at hC
        have HN : Hid (∀ i (h : i < l.length), i < j + 1 → nameB l[i] = true) := Lib.hid fun i h hi => by
          by_cases hij : i = j
          · subst hij; exact hn
          · exact HM.out i h (by omega)
        have HC := Lib.hid hC
        clear hC hn HM
        go_wp2_with (go_at_call 34; refine HC.out.mono ?_; rintro e w1 ⟨rfl, hb1⟩)
        go_roundw
        case rel => exact ⟨j + 1, by go_num, HN, by omega, hb.trans (hb1.mono hsz)⟩
        case measure => simp [intOf]; omega
    · obtain rfl : j = l.length := by omega
      have HN := Lib.hid (all_yes (f := nameB) (l := l) fun i h => HM.out i h h)
      clear HM
      go_wp2_with fail
      go_ret
      exact ⟨ret_b HN.out.symm, hb⟩
set_option maxHeartbeats 2000000 in
theorem specNames (l : List ByteArray) (m : Nat) (s : Value) (P : Nat → Prop) (w : World) (hK : Sr w P s l) (hP : ∀ b, P b → b < w.heap.size) (hl : l.length ≤ 1048576) (hw : ∀ i (h : i < l.length), l[i].size ≤ 1048576) :
    Calls Tryz.prog 26 #[s, .int .i64 (m : Int)] w fun e w' => e = .returned (.bool (l.all nameB && decide (l.length ≤ m))) ∧ Below w.heap.size w w' := by
  obtain ⟨A, cap, rfl⟩ := hK.form
  go_enter Tryz.func26, Tryz.ntmps26
  go_wp2_with fail
  go_loopw [5] (fun i wr => ∃ j : Nat, i = .int .i64 j ∧ Hid (∀ i (h : i < l.length), i < j → nameB l[i] = true) ∧ j ≤ l.length ∧ Below w.heap.size w wr) (fun i _ => l.length - (intOf i).toNat)
  case atStart => exact ⟨0, rfl, Lib.hid (fun i _ h => by omega), by omega, Below.refl _ _⟩
  case round =>
    obtain ⟨j, rfl, HM, hj, hb⟩ := hrel
    have hsz := hb.size
    by_cases hlt : j < l.length
    · have i1 : (j : Int) < (l.length : Int) := by omega
      obtain ⟨b, o, rfl, hPb, c0⟩ := Sr.at_ (hK.below hb hP) hlt
      have hC := specName l[j] (hw j hlt) wr
      cases hn : nameB l[j]
      · rw [hn] at hC
        have HN := Lib.hid (show (l.all nameB && decide (l.length ≤ m)) = false by rw [all_not (f := nameB) hlt hn]; rfl)
        have HC := Lib.hid hC
        clear hC hn HM
        go_wp2_with (go_at_call 27; refine HC.out.mono ?_; rintro e w1 ⟨rfl, hb1⟩)
        go_ret
        exact ⟨ret_b HN.out.symm, hb.trans (hb1.mono hsz)⟩
      · rw [hn] at hC
        have HN : Hid (∀ i (h : i < l.length), i < j + 1 → nameB l[i] = true) := Lib.hid fun i h hi => by
          by_cases hij : i = j
          · subst hij; exact hn
          · exact HM.out i h (by omega)
        have HC := Lib.hid hC
        clear hC hn HM
        go_wp2_with (go_at_call 27; refine HC.out.mono ?_; rintro e w1 ⟨rfl, hb1⟩)
        go_roundw
        case rel => exact ⟨j + 1, by go_num, HN, by omega, hb.trans (hb1.mono hsz)⟩
        case measure => simp [intOf]; omega
    · obtain rfl : j = l.length := by omega
      have HA := all_yes (f := nameB) (l := l) fun i h => HM.out i h h
      clear HM
      by_cases hm : l.length ≤ m
      · have HN := Lib.hid (show (l.all nameB && decide (l.length ≤ m)) = true by rw [HA, decide_eq_true hm]; rfl)
        have i2 : (l.length : Int) ≤ (m : Int) := by omega
        clear HA hm
        go_wp2_with fail
        go_ret
        exact ⟨ret_b HN.out.symm, hb⟩
      · have HN := Lib.hid (show (l.all nameB && decide (l.length ≤ m)) = false by rw [HA, decide_eq_false hm]; rfl)
        have i2 : ¬ (l.length : Int) ≤ (m : Int) := by omega
        clear HA hm
        go_wp2_with fail
        go_ret
        exact ⟨ret_b HN.out.symm, hb⟩
end Go.Proofs.YtljblaglfooclaaGreatDoor
