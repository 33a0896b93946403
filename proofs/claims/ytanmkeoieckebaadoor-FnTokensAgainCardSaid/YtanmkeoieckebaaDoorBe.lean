/- Proved here: what BeginsExpression and EndsExpression give, of the program and of the reference. Condition: the listed table of white space lies in memory (the program's form alone). -/
import Derived.Test.YtanmkeoieckebaaDoorBl
import Derived.Test.YtanmkeoieckebaaDoorTq
import Derived.Test.YtanmkeoieckebaaDoorHeld
namespace Go.Proofs.YtanmkeoieckebaaDoor
open Go.RowKit

/-- Texts that lie in a block of their own. -/
def LieAt (w : World) (b : Nat) (zs : List ByteArray) : Prop := ∀ j (h : j < zs.length), w.cell? ⟨b, 0 + j, none⟩ = some (.string zs[j])
theorem LieAt.kept {w w' : World} {b : Nat} {zs : List ByteArray} (h : LieAt w b zs) (hb : Below w.heap.size w w') : LieAt w' b zs := fun j hj => kc1 hb (h j hj)
theorem splitC (c : ByteArray) (zs : List ByteArray) (n : Nat) (hz : (Lib.fields c.data.toList).map (fun l => Value.string ⟨l.toArray⟩) = zs.map Value.string) (hn : (Lib.fields c.data.toList).length = n) (hs : c.size ≤ 1048576) (ha : c.data.toList.all (fun b => decide (b.toNat < 128)) = true) (w : World) (ht : Lib.TabIs Tryd.prog w "strings.asciiSpace" .u8 Lib.asciiSpaceTab) :
    Calls Tryd.prog 113 #[.string c] w fun e w' => ∃ b, e = .returned (.slice (some ⟨b, 0, none⟩) n n) ∧ LieAt w' b zs ∧ Below w.heap.size w w' := by
  have h := Tryd.strings_Fields_laid c w (by omega) (fun j b hb => by
    have := List.all_eq_true.1 ha b (List.mem_of_getElem? hb)
    exact of_decide_eq_true this) ht
  rw [hz, hn] at h
  exact h.mono fun e w' ⟨h1, h2⟩ => ⟨_, h1, by rw [h2]; exact fun j hj => strs_cell w zs _ j hj, by rw [h2]; repeat (first | exact Below.refl _ _ | refine Below.drew ?_ | refine Below.setCell ?_ (by (try simp); try omega) _ | refine Below.alloc ?_ (by (try simp); try omega) _)⟩
theorem inC (zs : List ByteArray) (n b : Nat) (hn : n = zs.length) (hm : n ≤ 1048576) (x : ByteArray) (w : World) (h : LieAt w b zs) : Calls Tryd.prog 112 #[.slice (some ⟨b, 0, none⟩) n n, .string x] w fun e w' => e = .returned (.bool (Lib.containsS zs x)) ∧ w = w' := by
  subst hn
  have h := Tryd.slices_Contains_string b 0 zs.length zs.length zs x w (Nat.le_refl _) (by omega) (fun j hj => by
    rw [h j hj, getD_at hj])
  rw [List.take_length] at h
  exact h.mono fun e w' ⟨h1, h2⟩ => ⟨h1, h2.symm⟩
def zBeg2 : List ByteArray := [⟨#[105, 102]⟩, ⟨#[119, 104, 105, 108, 101]⟩, ⟨#[117, 110, 116, 105, 108]⟩, ⟨#[101, 118, 101, 114, 121]⟩, ⟨#[114, 101, 112, 101, 97, 116]⟩, ⟨#[99, 97, 115, 101]⟩, ⟨#[114, 101, 116, 117, 114, 110]⟩, ⟨#[115, 117, 115, 112, 101, 110, 100]⟩, ⟨#[102, 97, 105, 108]⟩, ⟨#[98, 114, 101, 97, 107]⟩, ⟨#[110, 101, 120, 116]⟩, ⟨#[99, 114, 101, 97, 116, 101]⟩, ⟨#[110, 111, 116]⟩, ⟨#[100, 101, 102, 101, 114]⟩]
def zBeg7 : List ByteArray := [⟨#[43]⟩, ⟨#[45]⟩, ⟨#[42]⟩, ⟨#[47]⟩, ⟨#[61]⟩, ⟨#[126]⟩, ⟨#[124]⟩, ⟨#[33]⟩, ⟨#[64]⟩, ⟨#[46]⟩, ⟨#[92]⟩, ⟨#[94]⟩, ⟨#[46, 62]⟩, ⟨#[40]⟩, ⟨#[91]⟩, ⟨#[123]⟩]
theorem fBeg2 : (Lib.fields (⟨#[105, 102, 32, 119, 104, 105, 108, 101, 32, 117, 110, 116, 105, 108, 32, 101, 118, 101, 114, 121, 32, 114, 101, 112, 101, 97, 116, 32, 99, 97, 115, 101, 32, 114, 101, 116, 117, 114, 110, 32, 115, 117, 115, 112, 101, 110, 100, 32, 102, 97, 105, 108, 32, 98, 114, 101, 97, 107, 32, 110, 101, 120, 116, 32, 99, 114, 101, 97, 116, 101, 32, 110, 111, 116, 32, 100, 101, 102, 101, 114]⟩ : ByteArray).data.toList).map (fun l => Value.string ⟨l.toArray⟩) = zBeg2.map Value.string := by kernel_rfl
theorem nBeg2 : (Lib.fields (⟨#[105, 102, 32, 119, 104, 105, 108, 101, 32, 117, 110, 116, 105, 108, 32, 101, 118, 101, 114, 121, 32, 114, 101, 112, 101, 97, 116, 32, 99, 97, 115, 101, 32, 114, 101, 116, 117, 114, 110, 32, 115, 117, 115, 112, 101, 110, 100, 32, 102, 97, 105, 108, 32, 98, 114, 101, 97, 107, 32, 110, 101, 120, 116, 32, 99, 114, 101, 97, 116, 101, 32, 110, 111, 116, 32, 100, 101, 102, 101, 114]⟩ : ByteArray).data.toList).length = 14 := by kernel_rfl
theorem aBeg2 : (⟨#[105, 102, 32, 119, 104, 105, 108, 101, 32, 117, 110, 116, 105, 108, 32, 101, 118, 101, 114, 121, 32, 114, 101, 112, 101, 97, 116, 32, 99, 97, 115, 101, 32, 114, 101, 116, 117, 114, 110, 32, 115, 117, 115, 112, 101, 110, 100, 32, 102, 97, 105, 108, 32, 98, 114, 101, 97, 107, 32, 110, 101, 120, 116, 32, 99, 114, 101, 97, 116, 101, 32, 110, 111, 116, 32, 100, 101, 102, 101, 114]⟩ : ByteArray).data.toList.all (fun b => decide (b.toNat < 128)) = true := by kernel_rfl
theorem fBeg7 : (Lib.fields (⟨#[43, 32, 45, 32, 42, 32, 47, 32, 61, 32, 126, 32, 124, 32, 33, 32, 64, 32, 46, 32, 92, 32, 94, 32, 46, 62, 32, 40, 32, 91, 32, 123]⟩ : ByteArray).data.toList).map (fun l => Value.string ⟨l.toArray⟩) = zBeg7.map Value.string := by kernel_rfl
theorem nBeg7 : (Lib.fields (⟨#[43, 32, 45, 32, 42, 32, 47, 32, 61, 32, 126, 32, 124, 32, 33, 32, 64, 32, 46, 32, 92, 32, 94, 32, 46, 62, 32, 40, 32, 91, 32, 123]⟩ : ByteArray).data.toList).length = 16 := by kernel_rfl
theorem aBeg7 : (⟨#[43, 32, 45, 32, 42, 32, 47, 32, 61, 32, 126, 32, 124, 32, 33, 32, 64, 32, 46, 32, 92, 32, 94, 32, 46, 62, 32, 40, 32, 91, 32, 123]⟩ : ByteArray).data.toList.all (fun b => decide (b.toNat < 128)) = true := by kernel_rfl
/-- What BeginsExpression gives on a token. -/
def rBeg (k : Int) (t : ByteArray) : Bool := if k = 2 then Lib.containsS zBeg2 t else if k = 7 then Lib.containsS zBeg7 t else decide (k = 1 ∨ (3 ≤ k ∧ k ≤ 6))
theorem kindsBeg (k : Int) : k = 1 ∨ k = 2 ∨ k = 3 ∨ k = 4 ∨ k = 5 ∨ k = 6 ∨ k = 7 ∨ k < 1 ∨ 7 < k := by omega
theorem rBeg_2 (t : ByteArray) : rBeg 2 t = Lib.containsS zBeg2 t := if_pos rfl
theorem rBeg_7 (t : ByteArray) : rBeg 7 t = Lib.containsS zBeg7 t := by rw [rBeg, if_neg (by decide), if_pos rfl]
theorem rBeg_yes {k : Int} (t : ByteArray) (h : k = 1 ∨ (3 ≤ k ∧ k ≤ 6)) : rBeg k t = true := by rw [rBeg, if_neg (by omega), if_neg (by omega)]; exact decide_eq_true h
theorem rBeg_no {k : Int} (t : ByteArray) (h : k < 1 ∨ 7 < k) : rBeg k t = false := by rw [rBeg, if_neg (by omega), if_neg (by omega)]; exact decide_eq_false (by omega)
set_option maxHeartbeats 4000000 in
theorem implBeg (k : Int) (t : ByteArray) (l : Int) (w : World) (ht : Lib.TabIs Tryd.prog w "strings.asciiSpace" .u8 Lib.asciiSpaceTab) : Calls Tryd.prog 60 #[tkV k t l] w fun e w' => e = .returned (.bool (rBeg k t)) ∧ Below w.heap.size w w' := by
  unfold tkV
  have hW : Below w.heap.size w (w.alloc (.cells #[.int .i64 k, .string t, .int .i64 l] 61)) := (Below.refl _ _).alloc (Nat.le_refl _) _
  rcases kindsBeg k with rfl | rfl | rfl | rfl | rfl | rfl | rfl | h | h
  · have E := Lib.hid (rBeg_yes (k := 1) t (by omega))
    clear ht
    go_enter Tryd.func60, Tryd.ntmps60
    go_wp2
    go_ret
    refine ⟨ret_bk (Eq.trans ?_ E.out.symm), by repeat (first | exact Below.refl _ _ | refine Below.drew ?_ | refine Below.setCell ?_ (by (try simp); try omega) _ | refine Below.alloc ?_ (by (try simp); try omega) _)⟩
    first
    | rfl
    | (simp; try omega)
  · have hF : ∀ W, Below w.heap.size w W → Calls Tryd.prog 113 #[.string ⟨#[105, 102, 32, 119, 104, 105, 108, 101, 32, 117, 110, 116, 105, 108, 32, 101, 118, 101, 114, 121, 32, 114, 101, 112, 101, 97, 116, 32, 99, 97, 115, 101, 32, 114, 101, 116, 117, 114, 110, 32, 115, 117, 115, 112, 101, 110, 100, 32, 102, 97, 105, 108, 32, 98, 114, 101, 97, 107, 32, 110, 101, 120, 116, 32, 99, 114, 101, 97, 116, 101, 32, 110, 111, 116, 32, 100, 101, 102, 101, 114]⟩] W fun e w' => ∃ b, e = .returned (.slice (some ⟨b, 0, none⟩) 14 14) ∧ LieAt w' b zBeg2 ∧ Below W.heap.size W w' := fun W hb => splitC _ zBeg2 14 fBeg2 nBeg2 (of_decide_eq_true (by kernel_rfl)) aBeg2 W (tab_kept ht hb)
    have hI := fun W b h => inC zBeg2 14 b rfl (by decide) t W h
    rw [rBeg_2]
    generalize Lib.containsS zBeg2 t = r at *
    generalize zBeg2 = zz at *
    clear ht
    go_enter Tryd.func60, Tryd.ntmps60
    go_wp2_with fail
    go_region_held3 (fun w' => w'.cell? ⟨w.heap.size, 1, none⟩ = some (.string t)) ((refine kc1 (W := w.alloc (.cells #[.int .i64 2, .string t, .int .i64 l] 61)) ?_ (by go_simp); repeat (first | exact Below.refl _ _ | refine Below.drew ?_ | refine Below.alloc ?_ (by (try simp); try omega) _ | refine Below.trans ?_ (hb3.mono (by (try simp); try omega)) | refine Below.trans ?_ (hb4.mono (by (try simp); try omega)) | refine Below.trans ?_ (hb5.mono (by (try simp); try omega)))))
      (first
        | (go_at_call 113; refine Calls.mono (hF _ (hW.trans (Below.mono (by repeat (first | exact Below.refl _ _ | refine Below.drew ?_ | refine Below.alloc ?_ (by (try simp); try omega) _ | refine Below.trans ?_ (hb3.mono (by (try simp); try omega)) | refine Below.trans ?_ (hb4.mono (by (try simp); try omega)) | refine Below.trans ?_ (hb5.mono (by (try simp); try omega)))) hW.size))) ?_; rintro e w3 ⟨b, rfl, hl3, hb3⟩; have hz3 := hb3.size; (try simp at hz3))
        | (go_at_call 112; refine Calls.mono (hI _ b (hl3.kept (by repeat (first | exact Below.refl _ _ | refine Below.drew ?_ | refine Below.setCell ?_ (by (try simp); try omega) _ | refine Below.alloc ?_ (by (try simp); try omega) _)))) ?_; rintro e w4 ⟨rfl, rfl⟩))
    all_goals
      go_wp2_with fail
      go_ret
      exact ⟨rfl, hW.trans (Below.mono (by repeat (first | exact Below.refl _ _ | refine Below.drew ?_ | refine Below.alloc ?_ (by (try simp); try omega) _ | refine Below.trans ?_ (hb3.mono (by (try simp); try omega)) | refine Below.trans ?_ (hb4.mono (by (try simp); try omega)) | refine Below.trans ?_ (hb5.mono (by (try simp); try omega)))) hW.size)⟩
  · have E := Lib.hid (rBeg_yes (k := 3) t (by omega))
    clear ht
    go_enter Tryd.func60, Tryd.ntmps60
    go_wp2
    go_ret
    refine ⟨ret_bk (Eq.trans ?_ E.out.symm), by repeat (first | exact Below.refl _ _ | refine Below.drew ?_ | refine Below.setCell ?_ (by (try simp); try omega) _ | refine Below.alloc ?_ (by (try simp); try omega) _)⟩
    first
    | rfl
    | (simp; try omega)
  · have E := Lib.hid (rBeg_yes (k := 4) t (by omega))
    clear ht
    go_enter Tryd.func60, Tryd.ntmps60
    go_wp2
    go_ret
    refine ⟨ret_bk (Eq.trans ?_ E.out.symm), by repeat (first | exact Below.refl _ _ | refine Below.drew ?_ | refine Below.setCell ?_ (by (try simp); try omega) _ | refine Below.alloc ?_ (by (try simp); try omega) _)⟩
    first
    | rfl
    | (simp; try omega)
  · have E := Lib.hid (rBeg_yes (k := 5) t (by omega))
    clear ht
    go_enter Tryd.func60, Tryd.ntmps60
    go_wp2
    go_ret
    refine ⟨ret_bk (Eq.trans ?_ E.out.symm), by repeat (first | exact Below.refl _ _ | refine Below.drew ?_ | refine Below.setCell ?_ (by (try simp); try omega) _ | refine Below.alloc ?_ (by (try simp); try omega) _)⟩
    first
    | rfl
    | (simp; try omega)
  · have E := Lib.hid (rBeg_yes (k := 6) t (by omega))
    clear ht
    go_enter Tryd.func60, Tryd.ntmps60
    go_wp2
    go_ret
    refine ⟨ret_bk (Eq.trans ?_ E.out.symm), by repeat (first | exact Below.refl _ _ | refine Below.drew ?_ | refine Below.setCell ?_ (by (try simp); try omega) _ | refine Below.alloc ?_ (by (try simp); try omega) _)⟩
    first
    | rfl
    | (simp; try omega)
  · have hF : ∀ W, Below w.heap.size w W → Calls Tryd.prog 113 #[.string ⟨#[43, 32, 45, 32, 42, 32, 47, 32, 61, 32, 126, 32, 124, 32, 33, 32, 64, 32, 46, 32, 92, 32, 94, 32, 46, 62, 32, 40, 32, 91, 32, 123]⟩] W fun e w' => ∃ b, e = .returned (.slice (some ⟨b, 0, none⟩) 16 16) ∧ LieAt w' b zBeg7 ∧ Below W.heap.size W w' := fun W hb => splitC _ zBeg7 16 fBeg7 nBeg7 (of_decide_eq_true (by kernel_rfl)) aBeg7 W (tab_kept ht hb)
    have hI := fun W b h => inC zBeg7 16 b rfl (by decide) t W h
    rw [rBeg_7]
    generalize Lib.containsS zBeg7 t = r at *
    generalize zBeg7 = zz at *
    clear ht
    go_enter Tryd.func60, Tryd.ntmps60
    go_wp2_with fail
    go_region_held3 (fun w' => w'.cell? ⟨w.heap.size, 1, none⟩ = some (.string t)) ((refine kc1 (W := w.alloc (.cells #[.int .i64 7, .string t, .int .i64 l] 61)) ?_ (by go_simp); repeat (first | exact Below.refl _ _ | refine Below.drew ?_ | refine Below.alloc ?_ (by (try simp); try omega) _ | refine Below.trans ?_ (hb3.mono (by (try simp); try omega)) | refine Below.trans ?_ (hb4.mono (by (try simp); try omega)) | refine Below.trans ?_ (hb5.mono (by (try simp); try omega)))))
      (first
        | (go_at_call 113; refine Calls.mono (hF _ (hW.trans (Below.mono (by repeat (first | exact Below.refl _ _ | refine Below.drew ?_ | refine Below.alloc ?_ (by (try simp); try omega) _ | refine Below.trans ?_ (hb3.mono (by (try simp); try omega)) | refine Below.trans ?_ (hb4.mono (by (try simp); try omega)) | refine Below.trans ?_ (hb5.mono (by (try simp); try omega)))) hW.size))) ?_; rintro e w3 ⟨b, rfl, hl3, hb3⟩; have hz3 := hb3.size; (try simp at hz3))
        | (go_at_call 112; refine Calls.mono (hI _ b (hl3.kept (by repeat (first | exact Below.refl _ _ | refine Below.drew ?_ | refine Below.setCell ?_ (by (try simp); try omega) _ | refine Below.alloc ?_ (by (try simp); try omega) _)))) ?_; rintro e w4 ⟨rfl, rfl⟩))
    all_goals
      go_wp2_with fail
      go_ret
      exact ⟨rfl, hW.trans (Below.mono (by repeat (first | exact Below.refl _ _ | refine Below.drew ?_ | refine Below.alloc ?_ (by (try simp); try omega) _ | refine Below.trans ?_ (hb3.mono (by (try simp); try omega)) | refine Below.trans ?_ (hb4.mono (by (try simp); try omega)) | refine Below.trans ?_ (hb5.mono (by (try simp); try omega)))) hW.size)⟩
  · have E := Lib.hid (rBeg_no (k := k) t (by omega))
    clear ht
    go_enter Tryd.func60, Tryd.ntmps60
    go_wp2
    go_ret
    refine ⟨ret_bk (Eq.trans ?_ E.out.symm), by repeat (first | exact Below.refl _ _ | refine Below.drew ?_ | refine Below.setCell ?_ (by (try simp); try omega) _ | refine Below.alloc ?_ (by (try simp); try omega) _)⟩
    first
    | rfl
    | (simp; try omega)
  · have E := Lib.hid (rBeg_no (k := k) t (by omega))
    clear ht
    go_enter Tryd.func60, Tryd.ntmps60
    go_wp2
    go_ret
    refine ⟨ret_bk (Eq.trans ?_ E.out.symm), by repeat (first | exact Below.refl _ _ | refine Below.drew ?_ | refine Below.setCell ?_ (by (try simp); try omega) _ | refine Below.alloc ?_ (by (try simp); try omega) _)⟩
    first
    | rfl
    | (simp; try omega)
set_option maxHeartbeats 4000000 in
theorem specBeg (k : Int) (t : ByteArray) (l : Int) (w : World) : Calls Tryd.prog 57 #[tkV k t l] w fun e w' => e = .returned (.bool (rBeg k t)) ∧ Below w.heap.size w w' := by
  unfold tkV
  have hW : Below w.heap.size w (w.alloc (.cells #[.int .i64 k, .string t, .int .i64 l] 61)) := (Below.refl _ _).alloc (Nat.le_refl _) _
  rcases kindsBeg k with rfl | rfl | rfl | rfl | rfl | rfl | rfl | h | h
  · have E := Lib.hid (rBeg_yes (k := 1) t (by omega))
    go_enter Tryd.func57, Tryd.ntmps57
    go_wp2
    go_ret
    refine ⟨ret_bk (Eq.trans ?_ E.out.symm), by repeat (first | exact Below.refl _ _ | refine Below.drew ?_ | refine Below.setCell ?_ (by (try simp); try omega) _ | refine Below.alloc ?_ (by (try simp); try omega) _)⟩
    first
    | rfl
    | (simp; try omega)
  · have hS : ∀ W, W = (w.alloc (.cells #[.int .i64 2, .string t, .int .i64 l] 61)).alloc (strsO zBeg2 9) → Calls Tryd.prog 105 #[.slice (some ⟨w.heap.size + 1, 0, none⟩) 14 14, .string t] W fun e w' => e = .returned (.bool (Lib.containsS zBeg2 t)) ∧ Below W.heap.size W w' := fun W hW => by
      subst hW
      have := specHasW zBeg2 (w.alloc (.cells #[.int .i64 2, .string t, .int .i64 l] 61)).heap.size 0 14 14 rfl (by decide) t ((w.alloc (.cells #[.int .i64 2, .string t, .int .i64 l] 61)).alloc (strsO zBeg2 9)) (fun j hj => strs_cell (w.alloc (.cells #[.int .i64 2, .string t, .int .i64 l] 61)) _ 9 j hj)
      rw [show (w.alloc (.cells #[.int .i64 2, .string t, .int .i64 l] 61)).heap.size = w.heap.size + 1 from by simp] at this
      exact this
    rw [rBeg_2]
    generalize Lib.containsS zBeg2 t = r at *
    go_enter Tryd.func57, Tryd.ntmps57
    go_wp2_with (go_at_call 105; refine Calls.mono (hS _ rfl) ?_; rintro e w3 ⟨rfl, hb3⟩)
    go_ret
    exact ⟨rfl, growT (by repeat (first | exact Below.refl _ _ | refine Below.drew ?_ | refine Below.setCell ?_ (by (try simp); try omega) _ | refine Below.alloc ?_ (by (try simp); try omega) _)) hb3⟩
  · have E := Lib.hid (rBeg_yes (k := 3) t (by omega))
    go_enter Tryd.func57, Tryd.ntmps57
    go_wp2
    go_ret
    refine ⟨ret_bk (Eq.trans ?_ E.out.symm), by repeat (first | exact Below.refl _ _ | refine Below.drew ?_ | refine Below.setCell ?_ (by (try simp); try omega) _ | refine Below.alloc ?_ (by (try simp); try omega) _)⟩
    first
    | rfl
    | (simp; try omega)
  · have E := Lib.hid (rBeg_yes (k := 4) t (by omega))
    go_enter Tryd.func57, Tryd.ntmps57
    go_wp2
    go_ret
    refine ⟨ret_bk (Eq.trans ?_ E.out.symm), by repeat (first | exact Below.refl _ _ | refine Below.drew ?_ | refine Below.setCell ?_ (by (try simp); try omega) _ | refine Below.alloc ?_ (by (try simp); try omega) _)⟩
    first
    | rfl
    | (simp; try omega)
  · have E := Lib.hid (rBeg_yes (k := 5) t (by omega))
    go_enter Tryd.func57, Tryd.ntmps57
    go_wp2
    go_ret
    refine ⟨ret_bk (Eq.trans ?_ E.out.symm), by repeat (first | exact Below.refl _ _ | refine Below.drew ?_ | refine Below.setCell ?_ (by (try simp); try omega) _ | refine Below.alloc ?_ (by (try simp); try omega) _)⟩
    first
    | rfl
    | (simp; try omega)
  · have E := Lib.hid (rBeg_yes (k := 6) t (by omega))
    go_enter Tryd.func57, Tryd.ntmps57
    go_wp2
    go_ret
    refine ⟨ret_bk (Eq.trans ?_ E.out.symm), by repeat (first | exact Below.refl _ _ | refine Below.drew ?_ | refine Below.setCell ?_ (by (try simp); try omega) _ | refine Below.alloc ?_ (by (try simp); try omega) _)⟩
    first
    | rfl
    | (simp; try omega)
  · have hS : ∀ W, W = (w.alloc (.cells #[.int .i64 7, .string t, .int .i64 l] 61)).alloc (strsO zBeg7 9) → Calls Tryd.prog 105 #[.slice (some ⟨w.heap.size + 1, 0, none⟩) 16 16, .string t] W fun e w' => e = .returned (.bool (Lib.containsS zBeg7 t)) ∧ Below W.heap.size W w' := fun W hW => by
      subst hW
      have := specHasW zBeg7 (w.alloc (.cells #[.int .i64 7, .string t, .int .i64 l] 61)).heap.size 0 16 16 rfl (by decide) t ((w.alloc (.cells #[.int .i64 7, .string t, .int .i64 l] 61)).alloc (strsO zBeg7 9)) (fun j hj => strs_cell (w.alloc (.cells #[.int .i64 7, .string t, .int .i64 l] 61)) _ 9 j hj)
      rw [show (w.alloc (.cells #[.int .i64 7, .string t, .int .i64 l] 61)).heap.size = w.heap.size + 1 from by simp] at this
      exact this
    rw [rBeg_7]
    generalize Lib.containsS zBeg7 t = r at *
    go_enter Tryd.func57, Tryd.ntmps57
    go_wp2_with (go_at_call 105; refine Calls.mono (hS _ rfl) ?_; rintro e w3 ⟨rfl, hb3⟩)
    go_ret
    exact ⟨rfl, growT (by repeat (first | exact Below.refl _ _ | refine Below.drew ?_ | refine Below.setCell ?_ (by (try simp); try omega) _ | refine Below.alloc ?_ (by (try simp); try omega) _)) hb3⟩
  · have E := Lib.hid (rBeg_no (k := k) t (by omega))
    go_enter Tryd.func57, Tryd.ntmps57
    go_wp2
    go_ret
    refine ⟨ret_bk (Eq.trans ?_ E.out.symm), by repeat (first | exact Below.refl _ _ | refine Below.drew ?_ | refine Below.setCell ?_ (by (try simp); try omega) _ | refine Below.alloc ?_ (by (try simp); try omega) _)⟩
    first
    | rfl
    | (simp; try omega)
  · have E := Lib.hid (rBeg_no (k := k) t (by omega))
    go_enter Tryd.func57, Tryd.ntmps57
    go_wp2
    go_ret
    refine ⟨ret_bk (Eq.trans ?_ E.out.symm), by repeat (first | exact Below.refl _ _ | refine Below.drew ?_ | refine Below.setCell ?_ (by (try simp); try omega) _ | refine Below.alloc ?_ (by (try simp); try omega) _)⟩
    first
    | rfl
    | (simp; try omega)
def zEnd2 : List ByteArray := [⟨#[114, 101, 116, 117, 114, 110]⟩, ⟨#[115, 117, 115, 112, 101, 110, 100]⟩, ⟨#[102, 97, 105, 108]⟩, ⟨#[98, 114, 101, 97, 107]⟩, ⟨#[110, 101, 120, 116]⟩]
def zEnd7 : List ByteArray := [⟨#[41]⟩, ⟨#[93]⟩, ⟨#[125]⟩]
theorem fEnd2 : (Lib.fields (⟨#[114, 101, 116, 117, 114, 110, 32, 115, 117, 115, 112, 101, 110, 100, 32, 102, 97, 105, 108, 32, 98, 114, 101, 97, 107, 32, 110, 101, 120, 116]⟩ : ByteArray).data.toList).map (fun l => Value.string ⟨l.toArray⟩) = zEnd2.map Value.string := by kernel_rfl
theorem nEnd2 : (Lib.fields (⟨#[114, 101, 116, 117, 114, 110, 32, 115, 117, 115, 112, 101, 110, 100, 32, 102, 97, 105, 108, 32, 98, 114, 101, 97, 107, 32, 110, 101, 120, 116]⟩ : ByteArray).data.toList).length = 5 := by kernel_rfl
theorem aEnd2 : (⟨#[114, 101, 116, 117, 114, 110, 32, 115, 117, 115, 112, 101, 110, 100, 32, 102, 97, 105, 108, 32, 98, 114, 101, 97, 107, 32, 110, 101, 120, 116]⟩ : ByteArray).data.toList.all (fun b => decide (b.toNat < 128)) = true := by kernel_rfl
/-- What EndsExpression gives on a token. -/
def rEnd (k : Int) (t : ByteArray) : Bool := if k = 2 then Lib.containsS zEnd2 t else if k = 7 then Lib.containsS zEnd7 t else decide (k = 1 ∨ (3 ≤ k ∧ k ≤ 6))
theorem kindsEnd (k : Int) : k = 1 ∨ k = 2 ∨ k = 3 ∨ k = 4 ∨ k = 5 ∨ k = 6 ∨ k = 7 ∨ k < 1 ∨ 7 < k := by omega
theorem rEnd_2 (t : ByteArray) : rEnd 2 t = Lib.containsS zEnd2 t := if_pos rfl
theorem rEnd_7 (t : ByteArray) : rEnd 7 t = Lib.containsS zEnd7 t := by rw [rEnd, if_neg (by decide), if_pos rfl]
theorem rEnd_yes {k : Int} (t : ByteArray) (h : k = 1 ∨ (3 ≤ k ∧ k ≤ 6)) : rEnd k t = true := by rw [rEnd, if_neg (by omega), if_neg (by omega)]; exact decide_eq_true h
theorem rEnd_no {k : Int} (t : ByteArray) (h : k < 1 ∨ 7 < k) : rEnd k t = false := by rw [rEnd, if_neg (by omega), if_neg (by omega)]; exact decide_eq_false (by omega)
set_option maxHeartbeats 4000000 in
theorem implEnd (k : Int) (t : ByteArray) (l : Int) (w : World) (ht : Lib.TabIs Tryd.prog w "strings.asciiSpace" .u8 Lib.asciiSpaceTab) : Calls Tryd.prog 59 #[tkV k t l] w fun e w' => e = .returned (.bool (rEnd k t)) ∧ Below w.heap.size w w' := by
  unfold tkV
  have hW : Below w.heap.size w (w.alloc (.cells #[.int .i64 k, .string t, .int .i64 l] 61)) := (Below.refl _ _).alloc (Nat.le_refl _) _
  rcases kindsEnd k with rfl | rfl | rfl | rfl | rfl | rfl | rfl | h | h
  · have E := Lib.hid (rEnd_yes (k := 1) t (by omega))
    clear ht
    go_enter Tryd.func59, Tryd.ntmps59
    go_wp2
    go_ret
    refine ⟨ret_bk (Eq.trans ?_ E.out.symm), by repeat (first | exact Below.refl _ _ | refine Below.drew ?_ | refine Below.setCell ?_ (by (try simp); try omega) _ | refine Below.alloc ?_ (by (try simp); try omega) _)⟩
    first
    | rfl
    | (simp; try omega)
  · have hF : ∀ W, Below w.heap.size w W → Calls Tryd.prog 113 #[.string ⟨#[114, 101, 116, 117, 114, 110, 32, 115, 117, 115, 112, 101, 110, 100, 32, 102, 97, 105, 108, 32, 98, 114, 101, 97, 107, 32, 110, 101, 120, 116]⟩] W fun e w' => ∃ b, e = .returned (.slice (some ⟨b, 0, none⟩) 5 5) ∧ LieAt w' b zEnd2 ∧ Below W.heap.size W w' := fun W hb => splitC _ zEnd2 5 fEnd2 nEnd2 (of_decide_eq_true (by kernel_rfl)) aEnd2 W (tab_kept ht hb)
    have hI := fun W b h => inC zEnd2 5 b rfl (by decide) t W h
    rw [rEnd_2]
    generalize Lib.containsS zEnd2 t = r at *
    generalize zEnd2 = zz at *
    clear ht
    go_enter Tryd.func59, Tryd.ntmps59
    go_wp2_with fail
    go_region_held3 (fun w' => w'.cell? ⟨w.heap.size, 1, none⟩ = some (.string t)) ((refine kc1 (W := w.alloc (.cells #[.int .i64 2, .string t, .int .i64 l] 61)) ?_ (by go_simp); repeat (first | exact Below.refl _ _ | refine Below.drew ?_ | refine Below.alloc ?_ (by (try simp); try omega) _ | refine Below.trans ?_ (hb3.mono (by (try simp); try omega)) | refine Below.trans ?_ (hb4.mono (by (try simp); try omega)) | refine Below.trans ?_ (hb5.mono (by (try simp); try omega)))))
      (first
        | (go_at_call 113; refine Calls.mono (hF _ (hW.trans (Below.mono (by repeat (first | exact Below.refl _ _ | refine Below.drew ?_ | refine Below.alloc ?_ (by (try simp); try omega) _ | refine Below.trans ?_ (hb3.mono (by (try simp); try omega)) | refine Below.trans ?_ (hb4.mono (by (try simp); try omega)) | refine Below.trans ?_ (hb5.mono (by (try simp); try omega)))) hW.size))) ?_; rintro e w3 ⟨b, rfl, hl3, hb3⟩; have hz3 := hb3.size; (try simp at hz3))
        | (go_at_call 112; refine Calls.mono (hI _ b (hl3.kept (by repeat (first | exact Below.refl _ _ | refine Below.drew ?_ | refine Below.setCell ?_ (by (try simp); try omega) _ | refine Below.alloc ?_ (by (try simp); try omega) _)))) ?_; rintro e w4 ⟨rfl, rfl⟩))
    all_goals
      go_wp2_with fail
      go_ret
      exact ⟨rfl, hW.trans (Below.mono (by repeat (first | exact Below.refl _ _ | refine Below.drew ?_ | refine Below.alloc ?_ (by (try simp); try omega) _ | refine Below.trans ?_ (hb3.mono (by (try simp); try omega)) | refine Below.trans ?_ (hb4.mono (by (try simp); try omega)) | refine Below.trans ?_ (hb5.mono (by (try simp); try omega)))) hW.size)⟩
  · have E := Lib.hid (rEnd_yes (k := 3) t (by omega))
    clear ht
    go_enter Tryd.func59, Tryd.ntmps59
    go_wp2
    go_ret
    refine ⟨ret_bk (Eq.trans ?_ E.out.symm), by repeat (first | exact Below.refl _ _ | refine Below.drew ?_ | refine Below.setCell ?_ (by (try simp); try omega) _ | refine Below.alloc ?_ (by (try simp); try omega) _)⟩
    first
    | rfl
    | (simp; try omega)
  · have E := Lib.hid (rEnd_yes (k := 4) t (by omega))
    clear ht
    go_enter Tryd.func59, Tryd.ntmps59
    go_wp2
    go_ret
    refine ⟨ret_bk (Eq.trans ?_ E.out.symm), by repeat (first | exact Below.refl _ _ | refine Below.drew ?_ | refine Below.setCell ?_ (by (try simp); try omega) _ | refine Below.alloc ?_ (by (try simp); try omega) _)⟩
    first
    | rfl
    | (simp; try omega)
  · have E := Lib.hid (rEnd_yes (k := 5) t (by omega))
    clear ht
    go_enter Tryd.func59, Tryd.ntmps59
    go_wp2
    go_ret
    refine ⟨ret_bk (Eq.trans ?_ E.out.symm), by repeat (first | exact Below.refl _ _ | refine Below.drew ?_ | refine Below.setCell ?_ (by (try simp); try omega) _ | refine Below.alloc ?_ (by (try simp); try omega) _)⟩
    first
    | rfl
    | (simp; try omega)
  · have E := Lib.hid (rEnd_yes (k := 6) t (by omega))
    clear ht
    go_enter Tryd.func59, Tryd.ntmps59
    go_wp2
    go_ret
    refine ⟨ret_bk (Eq.trans ?_ E.out.symm), by repeat (first | exact Below.refl _ _ | refine Below.drew ?_ | refine Below.setCell ?_ (by (try simp); try omega) _ | refine Below.alloc ?_ (by (try simp); try omega) _)⟩
    first
    | rfl
    | (simp; try omega)
  · clear ht
    by_cases h1 : t = ⟨#[41]⟩
    · subst h1
      have E := Lib.hid (show rEnd 7 ⟨#[41]⟩ = true by kernel_rfl)
      go_enter Tryd.func59, Tryd.ntmps59
      go_wp2
      go_ret
      refine ⟨ret_bk (Eq.trans ?_ E.out.symm), by repeat (first | exact Below.refl _ _ | refine Below.drew ?_ | refine Below.setCell ?_ (by (try simp); try omega) _ | refine Below.alloc ?_ (by (try simp); try omega) _)⟩
      first
      | rfl
      | (simp; try omega)
    by_cases h2 : t = ⟨#[93]⟩
    · subst h2
      have E := Lib.hid (show rEnd 7 ⟨#[93]⟩ = true by kernel_rfl)
      go_enter Tryd.func59, Tryd.ntmps59
      go_wp2
      go_ret
      refine ⟨ret_bk (Eq.trans ?_ E.out.symm), by repeat (first | exact Below.refl _ _ | refine Below.drew ?_ | refine Below.setCell ?_ (by (try simp); try omega) _ | refine Below.alloc ?_ (by (try simp); try omega) _)⟩
      first
      | rfl
      | (simp; try omega)
    by_cases h3 : t = ⟨#[125]⟩
    · subst h3
      have E := Lib.hid (show rEnd 7 ⟨#[125]⟩ = true by kernel_rfl)
      go_enter Tryd.func59, Tryd.ntmps59
      go_wp2
      go_ret
      refine ⟨ret_bk (Eq.trans ?_ E.out.symm), by repeat (first | exact Below.refl _ _ | refine Below.drew ?_ | refine Below.setCell ?_ (by (try simp); try omega) _ | refine Below.alloc ?_ (by (try simp); try omega) _)⟩
      first
      | rfl
      | (simp; try omega)
    have E : Hid (rEnd 7 t = false) := Lib.hid (by
      rw [rEnd_7]
      refine has_no fun j hj e => ?_
      have hm : t ∈ zEnd7 := e ▸ List.getElem_mem hj
      simp only [zEnd7, List.mem_cons, List.not_mem_nil, or_false] at hm
      rcases hm with hm | hm | hm
      · exact h1 hm
      · exact h2 hm
      · exact h3 hm)
    have g1 := ne_lit (l := [41]) h1
    have g2 := ne_lit (l := [93]) h2
    have g3 := ne_lit (l := [125]) h3
    clear h1 h2 h3
    go_enter Tryd.func59, Tryd.ntmps59
    go_wp2
    go_ret
    refine ⟨ret_bk (Eq.trans ?_ E.out.symm), by repeat (first | exact Below.refl _ _ | refine Below.drew ?_ | refine Below.setCell ?_ (by (try simp); try omega) _ | refine Below.alloc ?_ (by (try simp); try omega) _)⟩
    first
    | rfl
    | (simp; try omega)
  · have E := Lib.hid (rEnd_no (k := k) t (by omega))
    clear ht
    go_enter Tryd.func59, Tryd.ntmps59
    go_wp2
    go_ret
    refine ⟨ret_bk (Eq.trans ?_ E.out.symm), by repeat (first | exact Below.refl _ _ | refine Below.drew ?_ | refine Below.setCell ?_ (by (try simp); try omega) _ | refine Below.alloc ?_ (by (try simp); try omega) _)⟩
    first
    | rfl
    | (simp; try omega)
  · have E := Lib.hid (rEnd_no (k := k) t (by omega))
    clear ht
    go_enter Tryd.func59, Tryd.ntmps59
    go_wp2
    go_ret
    refine ⟨ret_bk (Eq.trans ?_ E.out.symm), by repeat (first | exact Below.refl _ _ | refine Below.drew ?_ | refine Below.setCell ?_ (by (try simp); try omega) _ | refine Below.alloc ?_ (by (try simp); try omega) _)⟩
    first
    | rfl
    | (simp; try omega)
set_option maxHeartbeats 4000000 in
theorem specEnds (k : Int) (t : ByteArray) (l : Int) (w : World) : Calls Tryd.prog 56 #[tkV k t l] w fun e w' => e = .returned (.bool (rEnd k t)) ∧ Below w.heap.size w w' := by
  unfold tkV
  have hW : Below w.heap.size w (w.alloc (.cells #[.int .i64 k, .string t, .int .i64 l] 61)) := (Below.refl _ _).alloc (Nat.le_refl _) _
  rcases kindsEnd k with rfl | rfl | rfl | rfl | rfl | rfl | rfl | h | h
  · have E := Lib.hid (rEnd_yes (k := 1) t (by omega))
    go_enter Tryd.func56, Tryd.ntmps56
    go_wp2
    go_ret
    refine ⟨ret_bk (Eq.trans ?_ E.out.symm), by repeat (first | exact Below.refl _ _ | refine Below.drew ?_ | refine Below.setCell ?_ (by (try simp); try omega) _ | refine Below.alloc ?_ (by (try simp); try omega) _)⟩
    first
    | rfl
    | (simp; try omega)
  · have hS : ∀ W, W = (w.alloc (.cells #[.int .i64 2, .string t, .int .i64 l] 61)).alloc (strsO zEnd2 9) → Calls Tryd.prog 105 #[.slice (some ⟨w.heap.size + 1, 0, none⟩) 5 5, .string t] W fun e w' => e = .returned (.bool (Lib.containsS zEnd2 t)) ∧ Below W.heap.size W w' := fun W hW => by
      subst hW
      have := specHasW zEnd2 (w.alloc (.cells #[.int .i64 2, .string t, .int .i64 l] 61)).heap.size 0 5 5 rfl (by decide) t ((w.alloc (.cells #[.int .i64 2, .string t, .int .i64 l] 61)).alloc (strsO zEnd2 9)) (fun j hj => strs_cell (w.alloc (.cells #[.int .i64 2, .string t, .int .i64 l] 61)) _ 9 j hj)
      rw [show (w.alloc (.cells #[.int .i64 2, .string t, .int .i64 l] 61)).heap.size = w.heap.size + 1 from by simp] at this
      exact this
    rw [rEnd_2]
    generalize Lib.containsS zEnd2 t = r at *
    go_enter Tryd.func56, Tryd.ntmps56
    go_wp2_with (go_at_call 105; refine Calls.mono (hS _ rfl) ?_; rintro e w3 ⟨rfl, hb3⟩)
    go_ret
    exact ⟨rfl, growT (by repeat (first | exact Below.refl _ _ | refine Below.drew ?_ | refine Below.setCell ?_ (by (try simp); try omega) _ | refine Below.alloc ?_ (by (try simp); try omega) _)) hb3⟩
  · have E := Lib.hid (rEnd_yes (k := 3) t (by omega))
    go_enter Tryd.func56, Tryd.ntmps56
    go_wp2
    go_ret
    refine ⟨ret_bk (Eq.trans ?_ E.out.symm), by repeat (first | exact Below.refl _ _ | refine Below.drew ?_ | refine Below.setCell ?_ (by (try simp); try omega) _ | refine Below.alloc ?_ (by (try simp); try omega) _)⟩
    first
    | rfl
    | (simp; try omega)
  · have E := Lib.hid (rEnd_yes (k := 4) t (by omega))
    go_enter Tryd.func56, Tryd.ntmps56
    go_wp2
    go_ret
    refine ⟨ret_bk (Eq.trans ?_ E.out.symm), by repeat (first | exact Below.refl _ _ | refine Below.drew ?_ | refine Below.setCell ?_ (by (try simp); try omega) _ | refine Below.alloc ?_ (by (try simp); try omega) _)⟩
    first
    | rfl
    | (simp; try omega)
  · have E := Lib.hid (rEnd_yes (k := 5) t (by omega))
    go_enter Tryd.func56, Tryd.ntmps56
    go_wp2
    go_ret
    refine ⟨ret_bk (Eq.trans ?_ E.out.symm), by repeat (first | exact Below.refl _ _ | refine Below.drew ?_ | refine Below.setCell ?_ (by (try simp); try omega) _ | refine Below.alloc ?_ (by (try simp); try omega) _)⟩
    first
    | rfl
    | (simp; try omega)
  · have E := Lib.hid (rEnd_yes (k := 6) t (by omega))
    go_enter Tryd.func56, Tryd.ntmps56
    go_wp2
    go_ret
    refine ⟨ret_bk (Eq.trans ?_ E.out.symm), by repeat (first | exact Below.refl _ _ | refine Below.drew ?_ | refine Below.setCell ?_ (by (try simp); try omega) _ | refine Below.alloc ?_ (by (try simp); try omega) _)⟩
    first
    | rfl
    | (simp; try omega)
  · skip
    by_cases h1 : t = ⟨#[41]⟩
    · subst h1
      have E := Lib.hid (show rEnd 7 ⟨#[41]⟩ = true by kernel_rfl)
      go_enter Tryd.func56, Tryd.ntmps56
      go_wp2
      go_ret
      refine ⟨ret_bk (Eq.trans ?_ E.out.symm), by repeat (first | exact Below.refl _ _ | refine Below.drew ?_ | refine Below.setCell ?_ (by (try simp); try omega) _ | refine Below.alloc ?_ (by (try simp); try omega) _)⟩
      first
      | rfl
      | (simp; try omega)
    by_cases h2 : t = ⟨#[93]⟩
    · subst h2
      have E := Lib.hid (show rEnd 7 ⟨#[93]⟩ = true by kernel_rfl)
      go_enter Tryd.func56, Tryd.ntmps56
      go_wp2
      go_ret
      refine ⟨ret_bk (Eq.trans ?_ E.out.symm), by repeat (first | exact Below.refl _ _ | refine Below.drew ?_ | refine Below.setCell ?_ (by (try simp); try omega) _ | refine Below.alloc ?_ (by (try simp); try omega) _)⟩
      first
      | rfl
      | (simp; try omega)
    by_cases h3 : t = ⟨#[125]⟩
    · subst h3
      have E := Lib.hid (show rEnd 7 ⟨#[125]⟩ = true by kernel_rfl)
      go_enter Tryd.func56, Tryd.ntmps56
      go_wp2
      go_ret
      refine ⟨ret_bk (Eq.trans ?_ E.out.symm), by repeat (first | exact Below.refl _ _ | refine Below.drew ?_ | refine Below.setCell ?_ (by (try simp); try omega) _ | refine Below.alloc ?_ (by (try simp); try omega) _)⟩
      first
      | rfl
      | (simp; try omega)
    have E : Hid (rEnd 7 t = false) := Lib.hid (by
      rw [rEnd_7]
      refine has_no fun j hj e => ?_
      have hm : t ∈ zEnd7 := e ▸ List.getElem_mem hj
      simp only [zEnd7, List.mem_cons, List.not_mem_nil, or_false] at hm
      rcases hm with hm | hm | hm
      · exact h1 hm
      · exact h2 hm
      · exact h3 hm)
    have g1 := ne_lit (l := [41]) h1
    have g2 := ne_lit (l := [93]) h2
    have g3 := ne_lit (l := [125]) h3
    clear h1 h2 h3
    go_enter Tryd.func56, Tryd.ntmps56
    go_wp2
    go_ret
    refine ⟨ret_bk (Eq.trans ?_ E.out.symm), by repeat (first | exact Below.refl _ _ | refine Below.drew ?_ | refine Below.setCell ?_ (by (try simp); try omega) _ | refine Below.alloc ?_ (by (try simp); try omega) _)⟩
    first
    | rfl
    | (simp; try omega)
  · have E := Lib.hid (rEnd_no (k := k) t (by omega))
    go_enter Tryd.func56, Tryd.ntmps56
    go_wp2
    go_ret
    refine ⟨ret_bk (Eq.trans ?_ E.out.symm), by repeat (first | exact Below.refl _ _ | refine Below.drew ?_ | refine Below.setCell ?_ (by (try simp); try omega) _ | refine Below.alloc ?_ (by (try simp); try omega) _)⟩
    first
    | rfl
    | (simp; try omega)
  · have E := Lib.hid (rEnd_no (k := k) t (by omega))
    go_enter Tryd.func56, Tryd.ntmps56
    go_wp2
    go_ret
    refine ⟨ret_bk (Eq.trans ?_ E.out.symm), by repeat (first | exact Below.refl _ _ | refine Below.drew ?_ | refine Below.setCell ?_ (by (try simp); try omega) _ | refine Below.alloc ?_ (by (try simp); try omega) _)⟩
    first
    | rfl
    | (simp; try omega)
end Go.Proofs.YtanmkeoieckebaaDoor
