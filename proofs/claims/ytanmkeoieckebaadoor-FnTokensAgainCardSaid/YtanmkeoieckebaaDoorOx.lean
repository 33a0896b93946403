/- Proved here: the list of operators, of the program and of the reference; what the program's longest operator is: the first of the list that the text begins with. Condition: the listed table of white space lies in memory (the program's form alone). -/
import Derived.Test.YtanmkeoieckebaaDoorKw
import Derived.Test.YtanmkeoieckebaaDoorLxA
namespace Go.Proofs.YtanmkeoieckebaaDoor
open Go.RowKit

/-- The operators, the longer ones ahead. -/
def zOps : List ByteArray := [⟨#[124, 124, 124, 58, 61]⟩, ⟨#[124, 124, 58, 61]⟩, ⟨#[43, 43, 58, 61]⟩, ⟨#[45, 45, 58, 61]⟩, ⟨#[42, 42, 58, 61]⟩, ⟨#[126, 61, 61, 61]⟩, ⟨#[124, 124, 124]⟩, ⟨#[61, 61, 61]⟩, ⟨#[126, 61, 61]⟩, ⟨#[60, 45, 62]⟩, ⟨#[58, 61, 58]⟩, ⟨#[60, 60, 61]⟩, ⟨#[62, 62, 61]⟩, ⟨#[43, 58, 61]⟩, ⟨#[45, 58, 61]⟩, ⟨#[42, 58, 61]⟩, ⟨#[47, 58, 61]⟩, ⟨#[37, 58, 61]⟩, ⟨#[94, 58, 61]⟩, ⟨#[58, 61]⟩, ⟨#[60, 45]⟩, ⟨#[60, 61]⟩, ⟨#[62, 61]⟩, ⟨#[126, 61]⟩, ⟨#[60, 60]⟩, ⟨#[62, 62]⟩, ⟨#[61, 61]⟩, ⟨#[124, 124]⟩, ⟨#[43, 43]⟩, ⟨#[45, 45]⟩, ⟨#[42, 42]⟩, ⟨#[63, 63]⟩, ⟨#[45, 62]⟩, ⟨#[61, 62]⟩, ⟨#[46, 62]⟩, ⟨#[46, 124]⟩, ⟨#[43]⟩, ⟨#[45]⟩, ⟨#[42]⟩, ⟨#[47]⟩, ⟨#[37]⟩, ⟨#[94]⟩, ⟨#[60]⟩, ⟨#[62]⟩, ⟨#[61]⟩, ⟨#[126]⟩, ⟨#[124]⟩, ⟨#[38]⟩, ⟨#[33]⟩, ⟨#[63]⟩, ⟨#[64]⟩, ⟨#[46]⟩, ⟨#[92]⟩, ⟨#[40]⟩, ⟨#[41]⟩, ⟨#[91]⟩, ⟨#[93]⟩, ⟨#[123]⟩, ⟨#[125]⟩, ⟨#[44]⟩, ⟨#[59]⟩, ⟨#[58]⟩]
def cOps : ByteArray := ⟨#[124, 124, 124, 58, 61, 32, 124, 124, 58, 61, 32, 43, 43, 58, 61, 32, 45, 45, 58, 61, 32, 42, 42, 58, 61, 32, 126, 61, 61, 61, 32, 124, 124, 124, 32, 61, 61, 61, 32, 126, 61, 61, 32, 60, 45, 62, 32, 58, 61, 58, 32, 60, 60, 61, 32, 62, 62, 61, 32, 43, 58, 61, 32, 45, 58, 61, 32, 42, 58, 61, 32, 47, 58, 61, 32, 37, 58, 61, 32, 94, 58, 61, 32, 58, 61, 32, 60, 45, 32, 60, 61, 32, 62, 61, 32, 126, 61, 32, 60, 60, 32, 62, 62, 32, 61, 61, 32, 124, 124, 32, 43, 43, 32, 45, 45, 32, 42, 42, 32, 63, 63, 32, 45, 62, 32, 61, 62, 32, 46, 62, 32, 46, 124, 32, 43, 32, 45, 32, 42, 32, 47, 32, 37, 32, 94, 32, 60, 32, 62, 32, 61, 32, 126, 32, 124, 32, 38, 32, 33, 32, 63, 32, 64, 32, 46, 32, 92, 32, 40, 32, 41, 32, 91, 32, 93, 32, 123, 32, 125, 32, 44, 32, 59, 32, 58]⟩
/-- The first operator that a text begins with. -/
def opB (m : List UInt8) (l : List ByteArray) : Option ByteArray := l.find? fun o => Lib.hasPrefix m o.data.toList
/-- The operators as bytes. -/
def opsL : List (List UInt8) := zOps.map (·.data.toList)
theorem opB_F (m : List UInt8) : opF opsL m = (opB m zOps).map (·.data.toList) := by
  unfold opF opB opsL
  rw [List.find?_map]
  rfl
theorem opB_yes {m : List UInt8} {l : List ByteArray} {o x : ByteArray} (h : opB m l = some o) : opB m (l ++ [x]) = some o := by
  unfold opB at h ⊢
  rw [List.find?_append, h]; rfl
theorem opB_no {m : List UInt8} {l : List ByteArray} {x : ByteArray} (h : opB m l = none) (hx : Lib.hasPrefix m x.data.toList = false) : opB m (l ++ [x]) = none := by
  unfold opB at h ⊢
  rw [List.find?_append, h]; simp [hx]
theorem opB_new {m : List UInt8} {l : List ByteArray} {x : ByteArray} (h : opB m l = none) (hx : Lib.hasPrefix m x.data.toList = true) : opB m (l ++ [x]) = some x := by
  unfold opB at h ⊢
  rw [List.find?_append, h]; simp [hx]
theorem opB_stay {m : List UInt8} {l : List ByteArray} {x : ByteArray} (hx : Lib.hasPrefix m x.data.toList = false) : opB m (l ++ [x]) = opB m l := by
  cases h : opB m l with
  | none => exact opB_no h hx
  | some o => exact opB_yes h
theorem ops_sorted : (zOps.map ByteArray.size).Pairwise (· ≥ ·) := by decide +kernel
theorem ops_pos : ∀ o ∈ zOps, 0 < o.size := by decide +kernel
theorem ops_len : zOps.length = 62 := rfl
theorem ops_small : ∀ o ∈ zOps, o.size ≤ 5 := by decide +kernel
theorem opB_longer {m : List UInt8} {j : Nat} (hj : j < zOps.length) {o : ByteArray} (h : opB m (zOps.take j) = some o) : zOps[j].size ≤ o.size := by
  have hm := List.mem_of_find?_eq_some h
  obtain ⟨i, hi, rfl⟩ := List.getElem_of_mem hm
  rw [List.length_take] at hi
  have hs := ops_sorted
  rw [List.pairwise_iff_getElem] at hs
  have := hs i j (by simp; omega) (by simpa using hj) (by omega)
  simp only [List.getElem_map] at this
  rw [List.getElem_take]
  exact this
/-- The best of the first operators. -/
def bestB (m : List UInt8) (j : Nat) : ByteArray := (opB m (zOps.take j)).getD ⟨#[]⟩
theorem take_ops {j : Nat} (h : j < zOps.length) : zOps.take (j + 1) = zOps.take j ++ [zOps[j]] := List.take_succ_eq_append_getElem h
theorem best_same {m : List UInt8} {j : Nat} (h : j < zOps.length) (hp : Lib.hasPrefix m zOps[j].data.toList = false) : bestB m (j + 1) = bestB m j := by
  unfold bestB; rw [take_ops h, opB_stay hp]
theorem best_keep {m : List UInt8} {j : Nat} (h : j < zOps.length) (hl : zOps[j].size ≤ (bestB m j).size) : bestB m (j + 1) = bestB m j := by
  unfold bestB at hl ⊢
  rw [take_ops h]
  cases ho : opB m (zOps.take j) with
  | some o => rw [opB_yes ho]
  | none =>
    rw [ho] at hl
    have := ops_pos _ (List.getElem_mem h)
    have : zOps[j].size ≤ 0 := hl
    omega
theorem best_new {m : List UInt8} {j : Nat} (h : j < zOps.length) (hp : Lib.hasPrefix m zOps[j].data.toList = true) (hl : (bestB m j).size < zOps[j].size) : bestB m (j + 1) = zOps[j] := by
  unfold bestB at hl ⊢
  rw [take_ops h]
  cases ho : opB m (zOps.take j) with
  | some o =>
    rw [ho] at hl
    have := opB_longer h ho
    have : o.size < zOps[j].size := hl
    omega
  | none => rw [opB_new ho hp]; rfl
theorem best_size (m : List UInt8) (j : Nat) : (bestB m j).size ≤ 5 := by
  unfold bestB
  cases ho : opB m (zOps.take j) with
  | none => exact Nat.zero_le _
  | some o => exact ops_small o (List.mem_of_mem_take (List.mem_of_find?_eq_some ho))
theorem fOps : (Lib.fields cOps.data.toList).map (fun l => Value.string ⟨l.toArray⟩) = zOps.map Value.string := by kernel_rfl
theorem nOps : (Lib.fields cOps.data.toList).length = 62 := by kernel_rfl
theorem aOps : cOps.data.toList.all (fun b => decide (b.toNat < 128)) = true := by kernel_rfl
theorem splitOps (w : World) (ht : Lib.TabIs Tryd.prog w "strings.asciiSpace" .u8 Lib.asciiSpaceTab) :
    Calls Tryd.prog 113 #[.string ⟨#[124, 124, 124, 58, 61, 32, 124, 124, 58, 61, 32, 43, 43, 58, 61, 32, 45, 45, 58, 61, 32, 42, 42, 58, 61, 32, 126, 61, 61, 61, 32, 124, 124, 124, 32, 61, 61, 61, 32, 126, 61, 61, 32, 60, 45, 62, 32, 58, 61, 58, 32, 60, 60, 61, 32, 62, 62, 61, 32, 43, 58, 61, 32, 45, 58, 61, 32, 42, 58, 61, 32, 47, 58, 61, 32, 37, 58, 61, 32, 94, 58, 61, 32, 58, 61, 32, 60, 45, 32, 60, 61, 32, 62, 61, 32, 126, 61, 32, 60, 60, 32, 62, 62, 32, 61, 61, 32, 124, 124, 32, 43, 43, 32, 45, 45, 32, 42, 42, 32, 63, 63, 32, 45, 62, 32, 61, 62, 32, 46, 62, 32, 46, 124, 32, 43, 32, 45, 32, 42, 32, 47, 32, 37, 32, 94, 32, 60, 32, 62, 32, 61, 32, 126, 32, 124, 32, 38, 32, 33, 32, 63, 32, 64, 32, 46, 32, 92, 32, 40, 32, 41, 32, 91, 32, 93, 32, 123, 32, 125, 32, 44, 32, 59, 32, 58]⟩] w fun e w' => e = .returned (.slice (some ⟨w.heap.size, 0, none⟩) 62 62) ∧ w.alloc (strsO zOps 9) = w' := by
  have h := Tryd.strings_Fields_laid cOps w (of_decide_eq_true (by kernel_rfl)) (fun j b hb => by
    have := List.all_eq_true.1 aOps b (List.mem_of_getElem? hb)
    exact of_decide_eq_true this) ht
  rw [fOps, nOps] at h
  exact h.mono fun e w' ⟨h1, h2⟩ => ⟨h1, h2.symm⟩
theorem implOps (w : World) (ht : Lib.TabIs Tryd.prog w "strings.asciiSpace" .u8 Lib.asciiSpaceTab) :
    Calls Tryd.prog 138 #[] w fun e w' => e = .returned (.slice (some ⟨w.heap.size, 0, none⟩) 62 62) ∧ w.alloc (strsO zOps 9) = w' := by
  have hF := splitOps w ht
  clear ht
  generalize zOps = zz at *
  go_enter Tryd.func138, Tryd.ntmps138
  go_wp2_with (go_at_call 113; refine hF.mono ?_; rintro e w' ⟨rfl, rfl⟩)
  go_ret
  exact ⟨rfl, rfl⟩
theorem specOps (w : World) : Calls Tryd.prog 104 #[] w fun e w' => e = .returned (.slice (some ⟨w.heap.size, 0, none⟩) 62 62) ∧ w.alloc (strsO zOps 9) = w' := by
  go_enter Tryd.func104, Tryd.ntmps104
  go_wp2
  go_ret
  exact ⟨rfl, rfl⟩
set_option maxHeartbeats 4000000 in
theorem implLongest (s : ByteArray) (w : World) (ht : Lib.TabIs Tryd.prog w "strings.asciiSpace" .u8 Lib.asciiSpaceTab) : Calls Tryd.prog 111 #[.string s] w fun e w' => e = .returned (.string ((opB s.data.toList zOps).getD ⟨#[]⟩)) ∧ Below w.heap.size w w' := by
  have hF := implOps w ht
  have hcell : ∀ j (h : j < zOps.length), (w.alloc (strsO zOps 9)).cell? ⟨w.heap.size, 0 + j, none⟩ = some (.string zOps[j]) := strs_cell w zOps _
  have HC := Lib.hid hcell
  have HE := Lib.hid (show bestB s.data.toList zOps.length = (opB s.data.toList zOps).getD ⟨#[]⟩ by unfold bestB; rw [List.take_length])
  have HL := Lib.hid ops_len
  have hb0 : Below w.heap.size w (w.alloc (strsO zOps 9)) := by repeat (first | exact Below.refl _ _ | refine Below.drew ?_ | refine Below.setCell ?_ (by (try simp); try omega) _ | refine Below.alloc ?_ (by (try simp); try omega) _)
  have hP := fun (p : ByteArray) (W : World) => Tryd.strings_HasPrefix s p W
  generalize hW1 : w.alloc (strsO zOps 9) = W1 at hF HC hb0
  clear ht hcell hW1
  go_enter Tryd.func111, Tryd.ntmps111
  go_wp2_with (go_at_call 138; refine hF.mono ?_; rintro e w' ⟨rfl, rfl⟩)
  go_loop [3, 8] (fun b i => ∃ (j : Nat) (t : ByteArray), i = .int .i64 j ∧ b = .string t ∧ Hid (t = bestB s.data.toList j) ∧ t.size ≤ 5 ∧ j ≤ 62)
    (fun _ i => 62 - (intOf i).toNat)
  case atStart => exact ⟨0, ⟨#[]⟩, rfl, rfl, Lib.hid (by unfold bestB opB; rfl), Nat.zero_le _, by omega⟩
  case round =>
    obtain ⟨j, t, rfl, rfl, HM, htb, hj⟩ := hrel
    by_cases hlt : j < 62
    · have hlt' : j < zOps.length := by rw [HL.out]; exact hlt
      have c0 := HC.out j hlt'
      rw [Nat.zero_add] at c0
      have HS := Lib.hid (show zOps[j].size ≤ 5 from ops_small _ (List.getElem_mem hlt'))
      obtain ⟨x, hx⟩ : ∃ x, x = zOps[j] := ⟨_, rfl⟩
      rw [← hx] at c0
      have hxs : x.size ≤ 5 := by rw [hx]; exact HS.out
      obtain ⟨p, hp⟩ : ∃ p, p = Lib.hasPrefix s.data.toList x.data.toList := ⟨_, rfl⟩
      have hPx := hP x
      rw [← hp] at hPx
      cases p with
      | false =>
        have HN := Lib.hid (show t = bestB s.data.toList (j + 1) by rw [best_same hlt' (by rw [← hx]; exact hp.symm)]; exact HM.out)
        clear HM hx hp hP
        go_wp2_with (go_at_call 139; refine (hPx _).mono ?_; rintro e w' ⟨rfl, rfl⟩)
        go_round
        case rel => exact ⟨j + 1, t, by go_num, rfl, HN, htb, by omega⟩
        case measure => simp [intOf]; omega
      | true =>
        by_cases hl : t.size < x.size
        · have HN := Lib.hid (show x = bestB s.data.toList (j + 1) by rw [best_new hlt' (by rw [← hx]; exact hp.symm) (by rw [← HM.out, ← hx]; exact hl)]; exact hx)
          clear HM hx hp hP
          go_wp2_with (go_at_call 139; refine (hPx _).mono ?_; rintro e w' ⟨rfl, rfl⟩)
          go_round
          case rel => exact ⟨j + 1, x, by go_num, rfl, HN, hxs, by omega⟩
          case measure => simp [intOf]; omega
        · have HN := Lib.hid (show t = bestB s.data.toList (j + 1) by rw [best_keep hlt' (by rw [← HM.out, ← hx]; omega)]; exact HM.out)
          clear HM hx hp hP
          go_wp2_with (go_at_call 139; refine (hPx _).mono ?_; rintro e w' ⟨rfl, rfl⟩)
          go_round
          case rel => exact ⟨j + 1, t, by go_num, rfl, HN, htb, by omega⟩
          case measure => simp [intOf]; omega
    · obtain rfl : j = 62 := by omega
      have HN := Lib.hid (show t = (opB s.data.toList zOps).getD ⟨#[]⟩ by rw [← HE.out, HL.out]; exact HM.out)
      clear HM hP
      go_wp2_with fail
      go_ret
      exact ⟨by rw [HN.out]; rfl, hb0⟩
end Go.Proofs.YtanmkeoieckebaaDoor
