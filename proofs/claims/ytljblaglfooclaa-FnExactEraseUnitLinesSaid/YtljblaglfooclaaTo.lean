/- Proved here: what the law's szExpr takes from its bound, and that its toExpr copies a tree into memory of its own. Condition: the tree's texts fit. -/
import Derived.Test.YtljblaglfooclaaXm
namespace Go.Proofs.Ytljblaglfooclaa
open Go.RowKit
namespace X

set_option maxHeartbeats 2000000 in
theorem szL_of (r : List X) (ih : ∀ i (h : i < r.length) (s : Value) (P : Nat → Prop) (w : World) (left : Nat), Rd w P r[i] s → (∀ b, P b → b < w.heap.size) → Wf r[i] → left ≤ 1099511627776 →
      Calls Try.prog 37 #[val r[i] s, .int .i64 (left : Int)] w fun e w' => e = .returned (.int .i64 (leftOf (siz r[i]) left)) ∧ Below w.heap.size w w')
    (s : Value) (P : Nat → Prop) (w : World) (left : Nat) (hK : Kd w P r s) (hP : ∀ b, P b → b < w.heap.size) (hw : WfL r) (hl : r.length ≤ maxLen) (hleft : left ≤ 1099511627776) :
    Calls Try.prog 40 #[s, .int .i64 (left : Int)] w fun e w' => e = .returned (.int .i64 (leftOf (r.length + sizL r) left)) ∧ Below w.heap.size w w' := by
  unfold maxLen at hl
  obtain ⟨A, cap, rfl⟩ := hK.form
  by_cases h0 : r.length ≤ left
  · obtain ⟨m0, hm0⟩ : ∃ m0, m0 = left - r.length := ⟨_, rfl⟩
    have hz : (left : Int) - (r.length : Int) = (m0 : Int) := by omega
    have HM0 := Lib.hid hm0
    have hm0' : m0 ≤ left := by omega
    clear hm0
    have b0 : decide ((m0 : Int) < 0) = false := by simp
    go_enter Try.func40, Try.ntmps40
    go_wp2_with fail
    go_loopw [1, 5] (fun a i wr => ∃ j m : Nat, i = .int .i64 j ∧ a = .int .i64 m ∧ Hid (m + sizL (r.take j) = m0) ∧ m ≤ m0 ∧ j ≤ r.length ∧ Below w.heap.size w wr)
      (fun _ i _ => r.length - (intOf i).toNat)
    case atStart => exact ⟨0, m0, rfl, rfl, Lib.hid (by simp [sizL]), by omega, by omega, Below.refl _ _⟩
    case round =>
      obtain ⟨j, m, rfl, rfl, HM, hm, hj, hb⟩ := hrel
      have hsz := hb.size
      by_cases hlt : j < r.length
      · obtain ⟨b, o, s', rfl, hPb, hkid, c0, c1, c2, c3, c4⟩ := Kd.at_ (hK.below hb hP) hlt
        obtain ⟨A1, cap1, rfl⟩ := hkid.form
        have hC := ih j hlt _ P wr m hkid.rd (fun b hb => Nat.lt_of_lt_of_le (hP b hb) hsz) (WfL_get r hlt hw) (by omega)
        have h1 := sizL_take r hlt
        have h2 := sizL_le r (j + 1)
        have h3 := HM.out
        by_cases hn : siz r[j] ≤ m
        · rw [leftOf_yes hn] at hC
          obtain ⟨m1, hm1⟩ : ∃ m1, m1 = m - siz r[j] := ⟨_, rfl⟩
          rw [← hm1] at hC
          have HN := Lib.hid (show m1 + sizL (r.take (j + 1)) = m0 by omega)
          have hm1' : m1 ≤ m := by omega
          have b1 : decide ((m1 : Int) < 0) = false := by simp
          have HC := Lib.hid hC
          clear hC hm1 hn h1 h2 h3 HM hz
          go_wp2_with (go_at_call 37; refine HC.out.mono ?_; rintro e w1 ⟨rfl, hb1⟩)
          go_roundw
          case rel => exact ⟨j + 1, _, by go_num, rfl, HN, by omega, by omega, hb.trans (hb1.mono hsz)⟩
          case measure => simp [intOf]; omega
        · rw [leftOf_no hn] at hC
          have HN := Lib.hid (show leftOf (r.length + sizL r) left = -1 by rw [leftOf_no]; have := HM0.out; omega)
          have HC := Lib.hid hC
          clear hC hn h1 h2 h3 HM hz
          go_wp2_with (go_at_call 37; refine HC.out.mono ?_; rintro e w1 ⟨rfl, hb1⟩)
          go_ret
          exact ⟨ret_z HN.out.symm, hb.trans (hb1.mono hsz)⟩
      · obtain rfl : j = r.length := by omega
        have HN := Lib.hid (show leftOf (r.length + sizL r) left = (m : Int) by
          have h1 := HM.out; have h2 := HM0.out; rw [List.take_length] at h1; rw [leftOf_yes (by omega)]; omega)
        clear HM
        go_wp2_with fail
        go_ret
        exact ⟨ret_z HN.out.symm, hb⟩
  · have HN := Lib.hid (leftOf_not (b := sizL r) h0)
    have b0 : decide ((left : Int) - (r.length : Int) < 0) = true := by simp; omega
    go_enter Try.func40, Try.ntmps40
    go_wp2_with fail
    go_ret
    exact ⟨ret_z HN.out, Below.refl _ _⟩
set_option maxHeartbeats 2000000 in
theorem szX (x : X) : ∀ (s : Value) (P : Nat → Prop) (w : World) (left : Nat), Rd w P x s → (∀ b, P b → b < w.heap.size) → Wf x → left ≤ 1099511627776 →
    Calls Try.prog 37 #[val x s, .int .i64 (left : Int)] w fun e w' => e = .returned (.int .i64 (leftOf (siz x) left)) ∧ Below w.heap.size w w' := by
  induction x using X.ind with
  | h k t n l r ih =>
    intro s P w left hR hP hw hleft
    have hK : Kd w P r s := hR.kids
    obtain ⟨A, cap, rfl⟩ := hK.form
    simp only [Wf] at hw
    obtain ⟨_, ht, _, _, hrl, hwr⟩ := hw
    have hE := Lib.hid (show siz (.mk k t n l r) = t.size + (r.length + sizL r) from by simp [siz])
    clear hR
    unfold maxLen at ht
    show Calls Try.prog 37 #[.agg #[.int .i64 k, .string t, .int .i64 n, .int .i64 l, .slice A r.length cap], .int .i64 (left : Int)] w _
    by_cases h0 : t.size ≤ left
    · obtain ⟨m0, hm0⟩ : ∃ m0, m0 = left - t.size := ⟨_, rfl⟩
      have hz : (left : Int) - (t.size : Int) = (m0 : Int) := by omega
      have HL := Lib.hid (leftOf_add (b := r.length + sizL r) h0 rfl)
      rw [← hm0] at HL
      have hm0' : m0 ≤ left := by omega
      clear hm0
      have b0 : decide ((m0 : Int) < 0) = false := by simp
      have hC : ∀ W : World, Below w.heap.size w W → Calls Try.prog 40 #[.slice A r.length cap, .int .i64 (m0 : Int)] W fun e w' => e = .returned (.int .i64 (leftOf (r.length + sizL r) m0)) ∧ Below W.heap.size W w' := fun W hW =>
        szL_of r ih _ P W m0 (hK.below hW hP) (fun b hb => Nat.lt_of_lt_of_le (hP b hb) hW.size) hwr hrl (by omega)
      by_cases h1 : r.length + sizL r ≤ m0
      · rw [leftOf_yes h1] at hC HL
        obtain ⟨m1, hm1⟩ : ∃ m1, m1 = m0 - (r.length + sizL r) := ⟨_, rfl⟩
        rw [← hm1] at hC HL
        have b1 : decide ((m1 : Int) < 0) = false := by simp
        clear hm1 h1
        go_enter Try.func37, Try.ntmps37
        go_wp2_with (go_at_call 40; refine (hC _ (by repeat (first | exact Below.refl _ _ | refine Below.drew ?_ | refine Below.setCell ?_ (by (try simp); try omega) _ | refine Below.alloc ?_ (by (try simp); try omega) _))).mono ?_; rintro e w1 ⟨rfl, hb1⟩)
        go_ret
        exact ⟨ret_z (by rw [hE.out]; exact HL.out), ((Below.refl _ _).alloc (Nat.le_refl _) _).trans (hb1.mono (by simp))⟩
      · rw [leftOf_no h1] at hC HL
        clear h1
        go_enter Try.func37, Try.ntmps37
        go_wp2_with (go_at_call 40; refine (hC _ (by repeat (first | exact Below.refl _ _ | refine Below.drew ?_ | refine Below.setCell ?_ (by (try simp); try omega) _ | refine Below.alloc ?_ (by (try simp); try omega) _))).mono ?_; rintro e w1 ⟨rfl, hb1⟩)
        go_ret
        exact ⟨ret_z (by rw [hE.out]; exact HL.out), ((Below.refl _ _).alloc (Nat.le_refl _) _).trans (hb1.mono (by simp))⟩
    · have HN := Lib.hid (leftOf_not (b := r.length + sizL r) h0)
      have b0 : decide ((left : Int) - (t.size : Int) < 0) = true := by simp; omega
      go_enter Try.func37, Try.ntmps37
      go_wp2_with fail
      go_ret
      exact ⟨ret_z (by rw [hE.out]; exact HN.out), ((Below.refl _ _).alloc (Nat.le_refl _) _)⟩
theorem info_x : (Try.prog.info? 44).map (fun i => (i.zero, i.size, i.bytes)) = some (some (.agg #[.int .i64 0, .string ⟨#[]⟩, .int .i64 0, .int .i64 0, .slice none 0 0]), 5, 64) := by kernel_rfl
/-- make([]Expr, n) -/
def zerosX (n : Nat) : Obj := .cells (madeCells #[.int .i64 0, .string ⟨#[]⟩, .int .i64 0, .int .i64 0, .slice none 0 0] (n * 5)) 44
theorem make_x (n : Nat) (hn : n ≤ 4398046511104) (w : World) : (Instr.makeSlice 42 (.int .i64 (n : Int)) (.int .i64 (n : Int))).run Try.prog w = .ok (.slice (some ⟨w.heap.size, 0, none⟩) n n) (w.alloc (zerosX n)) := by
  obtain ⟨i0, hi, hz0, hz1, hz2⟩ := info_parts info_x
  have hr := run_make (P := Try.prog) w 42 44 i0 _ Try.underlying42 hi hz0 .i64 .i64 n n (by omega) (by omega) (by rw [hz2]; omega) (by omega)
  simpa [hz1, zerosX, Value.cells] using hr
def nilS : Value := .slice none 0 0
theorem zeros_row (n : Nat) : (madeCells #[.int .i64 0, .string ⟨#[]⟩, .int .i64 0, .int .i64 0, .slice none 0 0] (n * 5)).toList = rowV (List.replicate n zero) (List.replicate n nilS) := by
  have hl : (rowV (List.replicate n zero) (List.replicate n nilS)).length = n * 5 := by rw [rowV_length (by simp)]; simp
  apply List.ext_getElem?
  intro j
  by_cases hj : j < n * 5
  · obtain ⟨i, c, hi, hc, rfl⟩ : ∃ i c, i < n ∧ c < 5 ∧ j = i * 5 + c := ⟨j / 5, j % 5, by omega, by omega, by omega⟩
    rw [rowV_get (by simpa using hi) (s := nilS) (by simp [hi]) c hc]
    have e : (i * 5 + c) % 5 = c := by omega
    simp only [madeCells, List.getElem_replicate, Array.toList_map, Array.toList_range, List.getElem?_map, List.getElem?_range hj, Option.map_some, List.size_toArray, List.length_cons, List.length_nil, Nat.zero_add, Nat.reduceAdd, e]
    match c, hc with
    | 0, _ => rfl
    | 1, _ => rfl
    | 2, _ => rfl
    | 3, _ => rfl
    | 4, _ => rfl
  · rw [List.getElem?_eq_none (by simp [madeCells]; omega), List.getElem?_eq_none (by omega)]
theorem own_zeros (w : World) (B n : Nat) (hb : B ≤ w.heap.size) (hn : n ≤ maxLen) : (w.alloc (zerosX n)).ownsRow B 44 5 (.slice (some ⟨w.heap.size, 0, none⟩) n n) n (rowV (List.replicate n zero) (List.replicate n nilS)) := by
  have h := World.ownsRow_lit (base := B) (e := 44) (size := 5) w (madeCells #[.int .i64 0, .string ⟨#[]⟩, .int .i64 0, .int .i64 0, .slice none 0 0] (n * 5)) n hb hn (by rw [size_madeCells])
  rwa [zeros_row] at h
theorem rowV_set : ∀ {R : List X} {S : List Value} {j : Nat} (_ : j < R.length) (_ : S.length = R.length) (x : X) (s : Value),
    (((((rowV R S).set (j * 5) (.int .i64 x.k)).set (j * 5 + 1) (.string x.t)).set (j * 5 + 2) (.int .i64 x.n)).set (j * 5 + 3) (.int .i64 x.l)).set (j * 5 + 4) s = rowV (R.set j x) (S.set j s)
  | y :: R, u :: S, 0, _, _, x, s => by simp [rowV, cells5]
  | y :: R, u :: S, j + 1, h, hl, x, s => by
    have := rowV_set (R := R) (S := S) (j := j) (by simpa using h) (by simpa using hl) x s
    have e : (j + 1) * 5 = j * 5 + 5 := by omega
    simp only [rowV, cells5, List.set_cons_succ, e, Nat.add_right_comm _ 5, List.cons_append, List.nil_append, ← this]
  | _ :: _, [], _, _, h, _, _ => by simp at h
theorem set_fill (r : List X) (j n : Nat) (h : j < r.length) (hn : n = r.length) (z : X) : (r.take j ++ List.replicate (n - j) z).set j r[j] = r.take (j + 1) ++ List.replicate (n - (j + 1)) z := by
  subst hn
  rw [List.set_append_right _ _ (by simp; omega), take_more r h, List.append_assoc]
  congr 1
  have e : r.length - j = (r.length - (j + 1)) + 1 := by omega
  rw [e, List.replicate_succ, show j - (r.take j).length = 0 by simp; omega]
  rfl
theorem set_fillS (S : List Value) (j n : Nat) (h : j < n) (hl : S.length = j) (z s : Value) : (S ++ List.replicate (n - j) z).set j s = (S ++ [s]) ++ List.replicate (n - (j + 1)) z := by
  subst hl
  rw [List.set_append_right _ _ (Nat.le_refl _), List.append_assoc]
  congr 1
  have e : n - S.length = (n - (S.length + 1)) + 1 := by omega
  rw [e, List.replicate_succ, Nat.sub_self]
  rfl
/-- The five stores of a node into element j of a row. -/
def setX (w : World) (g j : Nat) (x : X) (s : Value) : World :=
  ((((w.setCell ⟨g, j * 5, none⟩ (.int .i64 x.k)).setCell ⟨g, j * 5 + 1, none⟩ (.string x.t)).setCell ⟨g, j * 5 + 2, none⟩ (.int .i64 x.n)).setCell ⟨g, j * 5 + 3, none⟩ (.int .i64 x.l)).setCell ⟨g, j * 5 + 4, none⟩ s
theorem own_setX {w : World} {B g n cap : Nat} {e : TypeId} {R : List X} {S : List Value} (h : w.ownsRow B e 5 (.slice (some ⟨g, 0, none⟩) n cap) n (rowV R S)) {j : Nat} (hj : j < R.length) (hS : S.length = R.length) (x : X) (s : Value) :
    (setX w g j x s).ownsRow B e 5 (.slice (some ⟨g, 0, none⟩) n cap) n (rowV (R.set j x) (S.set j s)) := by
  have h5 := (World.ownsRow.stored (World.ownsRow.stored (World.ownsRow.stored (World.ownsRow.stored (World.ownsRow.stored h (j * 5) (.int .i64 x.k)).1 (j * 5 + 1) (.string x.t)).1 (j * 5 + 2) (.int .i64 x.n)).1 (j * 5 + 3) (.int .i64 x.l)).1 (j * 5 + 4) s).1
  rwa [rowV_set hj hS] at h5
theorem setX_block (w : World) (g j : Nat) (x : X) (s : Value) {b : Nat} (hb : b ≠ g) : (setX w g j x s).heap[b]? = w.heap[b]? := by
  unfold setX
  rw [heap_setCell_other _ _ _ _ hb, heap_setCell_other _ _ _ _ hb, heap_setCell_other _ _ _ _ hb, heap_setCell_other _ _ _ _ hb, heap_setCell_other _ _ _ _ hb]
theorem setX_below {B : Nat} {w w' : World} (h : Below B w w') {g : Nat} (hg : B ≤ g) (j : Nat) (x : X) (s : Value) : Below B w (setX w' g j x s) :=
  ((((h.setCell (p := ⟨g, _, none⟩) hg _).setCell (p := ⟨g, _, none⟩) hg _).setCell (p := ⟨g, _, none⟩) hg _).setCell (p := ⟨g, _, none⟩) hg _).setCell (p := ⟨g, _, none⟩) hg _
set_option maxHeartbeats 2000000 in
theorem toL_of (r : List X) (ih : ∀ i (h : i < r.length) (s : Value) (P : Nat → Prop) (w : World), Rd w P r[i] s → (∀ b, P b → b < w.heap.size) → siz r[i] ≤ 1099511627776 →
      Calls Try.prog 38 #[val r[i] s] w fun e w' => ∃ s' F, e = .returned (val r[i] s') ∧ Ok w' w.heap.size r[i].r s' F ∧ F.Nodup ∧ Below w.heap.size w w')
    (s : Value) (P : Nat → Prop) (w : World) (hK : Kd w P r s) (hP : ∀ b, P b → b < w.heap.size) (hsiz : r.length + sizL r ≤ 1099511627776) :
    Calls Try.prog 41 #[s] w fun e w' => ∃ s' F, e = .returned s' ∧ Ok w' w.heap.size r s' F ∧ F.Nodup ∧ Below w.heap.size w w' := by
  obtain ⟨A, cap, rfl⟩ := hK.form
  have hmk := make_x r.length (by omega) w
  go_enter Try.func41, Try.ntmps41
  go_wp2_with fail
  go_loopw [4] (fun i wr => ∃ (j : Nat) (S : List Value) (F : List Nat), i = .int .i64 j ∧ wr.ownsRow w.heap.size 44 5 (.slice (some ⟨w.heap.size, 0, none⟩) r.length r.length) r.length (rowV (r.take j ++ List.replicate (r.length - j) zero) (S ++ List.replicate (r.length - j) nilS)) ∧
      OwL wr (w.heap.size + 1) (r.take j) S F ∧ F.Nodup ∧ j ≤ r.length ∧ Below w.heap.size w wr)
    (fun i _ => r.length - (intOf i).toNat)
  case atStart => exact ⟨0, [], [], rfl, by simpa using own_zeros w w.heap.size r.length (Nat.le_refl _) (by unfold maxLen; omega), ⟨rfl, rfl⟩, List.nodup_nil, by omega, (Below.refl _ _).alloc (Nat.le_refl _) _⟩
  case round =>
    obtain ⟨j, S, F, rfl, hown, hF, hnd, hj, hb⟩ := hrel
    have hsz := hb.size
    have hlt0 := (hown.lt w.heap.size rfl).2
    clear hmk
    by_cases hlt : j < r.length
    · obtain ⟨b, o, s', rfl, hPb, hkid, c0, c1, c2, c3, c4⟩ := Kd.at_ (hK.below hb hP) hlt
      obtain ⟨A1, cap1, rfl⟩ := hkid.form
      have h0 := siz_get r hlt
      have hC := ih j hlt _ P wr hkid.rd (fun b hb => Nat.lt_of_lt_of_le (hP b hb) hsz) (by omega)
      clear h0
      go_wp2_with (go_at_call 38; refine hC.mono ?_; rintro e w1 ⟨s1, F1, rfl, hk1, hnd1, hb1⟩; obtain ⟨A2, cap2, rfl⟩ := hk1.form; have hown1 := ownsRow_below hown hb1 (fun k hk => by cases hk; exact hlt0); obtain ⟨⟨u0, u1, u2, u3, u4, d0, d1, d2, d3, d4⟩, f0, f1, f2, f3, f4⟩ := own_cells5 hown1 hlt; unfold val)
      have hSl := hF.len
      have hjl : (r.take j).length = j := by simp; omega
      have hrel : (setX w1 w.heap.size j r[j] (.slice A2 r[j].r.length cap2)).ownsRow w.heap.size 44 5 (.slice (some ⟨w.heap.size, 0, none⟩) r.length r.length) r.length (rowV (r.take (j + 1) ++ List.replicate (r.length - (j + 1)) zero) ((S ++ [.slice A2 r[j].r.length cap2]) ++ List.replicate (r.length - (j + 1)) nilS)) := by
        have h5 := own_setX hown1 (j := j) (by simp; omega) (by simp; omega) r[j] (.slice A2 r[j].r.length cap2)
        rwa [set_fill r j r.length hlt rfl, set_fillS S j r.length hlt (by omega)] at h5
      have hF1 : OwL (setX w1 w.heap.size j r[j] (.slice A2 r[j].r.length cap2)) (w.heap.size + 1) (r.take (j + 1)) (S ++ [.slice A2 r[j].r.length cap2]) (F ++ F1) := by
        rw [take_more r hlt]
        refine OwL.append (OwL.keep hF fun b hb => ?_) (OwL.one (Ow.keep (Ow.mono (by omega) hk1.ow) fun b hb => ?_))
        · have := OwL.lt hF b hb
          rw [setX_block _ _ _ _ _ (by omega)]
          exact hb1.block b (by omega)
        · have := hk1.lt b hb
          exact setX_block _ _ _ _ _ (by omega)
      have hnd2 : (F ++ F1).Nodup := List.nodup_append.2 ⟨hnd, hnd1, fun a ha c hc => by have := OwL.lt hF a ha; have := hk1.lt c hc; omega⟩
      have hB1 : Below w.heap.size w (setX w1 w.heap.size j r[j] (.slice A2 r[j].r.length cap2)) := setX_below (hb.trans (hb1.mono hsz)) (Nat.le_refl _) _ _ _
      refine ⟨⟨j + 1, _, _, by go_num, hrel, hF1, hnd2, by omega, hB1⟩, ?_⟩
      simp [intOf]; omega
    · obtain rfl : j = r.length := by omega
      have hS : Ok wr w.heap.size r (.slice (some ⟨w.heap.size, 0, none⟩) r.length r.length) (w.heap.size :: F) := by
        refine ⟨S, F, ?_, ?_, rfl⟩
        · simpa using hown
        · rw [List.take_length] at hF
          exact OwL.mono (by omega) hF
      have hnd2 : (w.heap.size :: F).Nodup := List.nodup_cons.2 ⟨fun hm => by have := OwL.lt hF _ hm; omega, hnd⟩
      clear hown hF hnd
      go_wp2_with fail
      go_ret
      exact ⟨_, _, rfl, hS, hnd2, hb⟩
set_option maxHeartbeats 2000000 in
theorem toX (x : X) : ∀ (s : Value) (P : Nat → Prop) (w : World), Rd w P x s → (∀ b, P b → b < w.heap.size) → siz x ≤ 1099511627776 →
    Calls Try.prog 38 #[val x s] w fun e w' => ∃ s' F, e = .returned (val x s') ∧ Ok w' w.heap.size x.r s' F ∧ F.Nodup ∧ Below w.heap.size w w' := by
  induction x using X.ind with
  | h k t n l r ih =>
    intro s P w hR hP hsiz
    have hK : Kd w P r s := hR.kids
    obtain ⟨A, cap, rfl⟩ := hK.form
    simp only [siz] at hsiz
    clear hR
    show Calls Try.prog 38 #[.agg #[.int .i64 k, .string t, .int .i64 n, .int .i64 l, .slice A r.length cap]] w _
    have hC : ∀ W : World, Below w.heap.size w W → Calls Try.prog 41 #[.slice A r.length cap] W fun e w' => ∃ s' F, e = .returned s' ∧ Ok w' W.heap.size r s' F ∧ F.Nodup ∧ Below W.heap.size W w' := fun W hW =>
      toL_of r ih _ P W (hK.below hW hP) (fun b hb => Nat.lt_of_lt_of_le (hP b hb) hW.size) (by omega)
    go_enter Try.func38, Try.ntmps38
    go_wp2_with (go_at_call 41; refine (hC _ (by repeat (first | exact Below.refl _ _ | refine Below.drew ?_ | refine Below.setCell ?_ (by (try simp); try omega) _ | refine Below.alloc ?_ (by (try simp); try omega) _))).mono ?_; rintro e w1 ⟨s1, F1, rfl, hk1, hnd1, hb1⟩; obtain ⟨A2, cap2, rfl⟩ := hk1.form; obtain ⟨hbc, hbf⟩ := bcell hb1)
    have hz := hb1.size
    simp at hz
    refine bodyPost_ret (v := .agg #[.int .i64 k, .string t, .int .i64 n, .int .i64 l, .slice A2 r.length cap2]) (by simp [results, Try.results38, go_sem, hbc]) rfl ⟨.slice A2 r.length cap2, F1, rfl, ?_, hnd1, ?_⟩
    · refine (hk1.keep fun b hb => ?_).mono (by simp; omega)
      have := (hk1.lt b hb).1
      simp at this
      rw [heap_setCell_other _ _ _ _ (by simp; omega), heap_setCell_other _ _ _ _ (by simp; omega), heap_setCell_other _ _ _ _ (by simp; omega), heap_setCell_other _ _ _ _ (by simp; omega), heap_setCell_other _ _ _ _ (by simp; omega), heap_setCell_other _ _ _ _ (by simp; omega)]
    · refine ((((((Below.trans ?_ (hb1.mono (by simp; omega))).setCell ?_ _).setCell ?_ _).setCell ?_ _).setCell ?_ _).setCell ?_ _).setCell ?_ _
      · repeat (first | exact Below.refl _ _ | refine Below.drew ?_ | refine Below.setCell ?_ (by (try simp); try omega) _ | refine Below.alloc ?_ (by (try simp); try omega) _)
      all_goals simp; try omega
end X
end Go.Proofs.Ytljblaglfooclaa
