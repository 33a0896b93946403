/- Proved here: the printed form of a valid tree fits; the program and the reference print a valid tree so. Condition: the tree is valid, its size within the limit; the listed tables lie in memory (the program's form alone). Proved here: PrintExpression of the program and of the reference answers alike. Condition: the tree lies in memory; its size within the limit; the listed tables lie in memory (the program's form alone). -/
import Derived.Test.YtljblaglfooclaaGreatDoorPi
import Derived.Test.YtljblaglfooclaaGreatDoorPj
namespace Go.Proofs.YtljblaglfooclaaGreatDoor
open Go.RowKit
namespace X

theorem csetL_128 (a b : Int) : (csetL a b).length ≤ 128 := csetPre_len a b 128
theorem cqB_size (t : ByteArray) : (cqB t).size ≤ 520 := by
  have h1 := quoteL_len 39 (csetL (newC t.data.toList).1.1 (newC t.data.toList).1.2)
  have h2 := csetL_128 (newC t.data.toList).1.1 (newC t.data.toList).1.2
  unfold cqB
  rw [size1]; omega
theorem lvl_mem {x : ByteArray} : ∀ (zz : List (List ByteArray)) (i : Nat), (zz.all fun r => r.all fun z => decide (z.size ≤ 128)) = true → 0 < lvl x zz i → x.size ≤ 128
  | [], i, _, h => by simp [lvl] at h
  | r :: rs, i, ha, h => by
    rw [List.all_cons, Bool.and_eq_true] at ha
    rw [lvl] at h
    by_cases hc : Lib.containsS r x = true
    · exact of_decide_eq_true (List.all_eq_true.mp ha.1 x ((Lib.containsS_iff r x).mp hc))
    · rw [if_neg hc] at h
      exact lvl_mem rs (i + 1) ha.2 h
theorem mem_size {x : ByteArray} {z : List ByteArray} (ha : (z.all fun y => decide (y.size ≤ 128)) = true) (h : Lib.containsS z x = true) : x.size ≤ 128 :=
  of_decide_eq_true (List.all_eq_true.mp ha x ((Lib.containsS_iff z x).mp h))
theorem nameB_size {t : ByteArray} (h : nameB t = true) : t.size ≤ 128 := by
  by_cases h1 : 12 < t.size
  · rw [name_long h1] at h; cases h
  · omega
theorem wd_size (k : Int) (t : ByteArray) (h : wdB k t = true) : t.size ≤ 128 ∧ (cqB t).size ≤ 520 := by
  refine ⟨?_, cqB_size t⟩
  unfold wdB at h
  split at h
  · have := of_decide_eq_true h; omega
  split at h
  · rw [okC_ref, Bool.and_eq_true] at h
    have h3 := csetL_128 (newC t.data.toList).1.1 (newC t.data.toList).1.2
    rw [of_decide_eq_true h.2] at h3
    exact h3
  split at h
  · exact nameB_size h
  split at h
  · exact mem_size (by kernel_rfl) h
  split at h
  · exact mem_size (by kernel_rfl) h
  split at h
  · exact lvl_mem zzB 0 (by kernel_rfl) (of_decide_eq_true h)
  have e : t.toList = [] := List.isEmpty_iff.mp h
  have e2 := setEq (l := []) (t := t)
  rw [e] at e2
  have e3 : [] = t.data.toList := of_decide_eq_true (e2.symm.trans rfl)
  have : t.data.toList.length = t.size := rfl
  rw [← e3] at this
  simp at this; omega
theorem sumK_le : ∀ r : List X, vldL wdB r = true → sumK (PK r) ≤ 620 * cntL r
  | [], _ => by simp [pK, sumK]
  | x :: r, h => by
    rw [vldL, Bool.and_eq_true] at h
    have h1 := pN_size lvB cqB wdB wd_size x h.1
    have h2 := sumK_le r h.2
    show sumK (pK lvB cqB (x :: r)) ≤ _
    rw [pK, sumK_cons, cntL]
    show (pN lvB cqB x).size + 20 + sumK (pK lvB cqB r) ≤ _
    change sumK (pK lvB cqB r) ≤ _ at h2
    omega
theorem kid_sz {r : List X} (hv : vldL wdB r = true) (hc : cntL r ≤ 600) : (∀ j need, j < r.length → (atT need (kd (PK r) j)).size ≤ 1048576) ∧ sumK (PK r) ≤ 372000 := by
  have h := sumK_le r hv
  refine ⟨fun j need hj => ?_, by omega⟩
  have h1 := atT_size need (kd (PK r) j)
  have h2 := kd_size (PK r) j (by rw [pK_length]; exact hj)
  omega
theorem jo_bd (a b : UInt8) (K : List Kp) (hs : sumK K ≤ 372000) : (joT [a, b] (K.map (atT 0))).size ≤ 1048576 := by
  have h1 := jo_size [a, b] (K.map (atT 0))
  have h2 := map_size 0 2 (by omega) K
  have e : ([a, b] : List UInt8).length = 2 := rfl
  rw [e] at h1; omega
theorem mem_le : ∀ (L : List ByteArray) (x : ByteArray), x ∈ L → x.size ≤ (L.map fun x => x.size + 2).sum
  | y :: L, x, h => by
    rw [List.map_cons, List.sum_cons]
    rcases List.mem_cons.mp h with rfl | h
    · omega
    · have := mem_le L x h; omega
theorem ca_bd (n : Int) (K : List Kp) (h : 2 ≤ K.length ∨ n ≠ 1) (hs : sumK K ≤ 372000) : (joT [59, 32] (caT n K)).size ≤ 1048576 ∧ ∀ x ∈ caT n K, x.size ≤ 1048576 := by
  have h1 := jo_size [59, 32] (caT n K)
  have h2 := caT_size n K h
  have h3 := sumK_drop K 1
  have e : ([59, 32] : List UInt8).length = 2 := rfl
  rw [e] at h1
  exact ⟨by omega, fun x hx => by have := mem_le _ x hx; omega⟩
theorem half {n : Int} {len : Nat} (h : (n = 0 ∨ n = 1) ∧ 1 + n ≤ (len : Int) ∧ ((len : Int) - 1 - n) % 2 = 0) : ∃ M : Nat, (len : Int) = 1 + n + 2 * (M : Int) := ⟨(((len : Int) - 1 - n) / 2).toNat, by omega⟩
set_option maxRecDepth 20000 in
set_option maxHeartbeats 4000000 in
theorem pi20 (k : Int) (hk : k = 20) (t : ByteArray) (n l : Int) (s : Value) (Z : ByteArray) (w : World) (hN : ∀ W : World, Below w.heap.size w W → Calls Tryz.prog 71 #[.agg #[.int .i64 20, .string t, .int .i64 n, .int .i64 l, s]] W fun e w' => e = .returned (.string Z) ∧ Below W.heap.size W w') :
    Calls Tryz.prog 37 #[.agg #[.int .i64 k, .string t, .int .i64 n, .int .i64 l, s]] w fun e w' => e = .returned (.string Z) ∧ Below w.heap.size w w' := by
  subst hk
  go_enter Tryz.func37, Tryz.ntmps37
  go_wp2_with (go_at_call 71; refine (hN _ (by repeat (first | exact Below.refl _ _ | refine Below.drew ?_ | refine Below.setCell ?_ (by (try simp); try omega) _ | refine Below.alloc ?_ (by (try simp); try omega) _))).mono ?_; rintro e w1 ⟨rfl, hb1⟩)
  go_ret
  exact ⟨rfl, Below.trans (by repeat (first | exact Below.refl _ _ | refine Below.drew ?_ | refine Below.setCell ?_ (by (try simp); try omega) _ | refine Below.alloc ?_ (by (try simp); try omega) _)) (hb1.mono (by simp))⟩
set_option maxRecDepth 20000 in
set_option maxHeartbeats 4000000 in
theorem implPrint (x : X) : ∀ (s : Value) (P : Nat → Prop) (w : World), vld wdB x = true → cnt x ≤ 600 → Kc w P x.r s → (∀ b, P b → b < w.heap.size) → Lib.TabIs Tryz.prog w "strings.asciiSpace" .u8 Lib.asciiSpaceTab → Lib.TabIs Tryz.prog w "internal/strconv.uint64pow10" .u64 Lib.pow10Tab →
    Calls Tryz.prog 37 #[val x s] w fun e w' => e = .returned (.string (PN x)) ∧ Below w.heap.size w w' := by
  induction x using X.ind with
  | h k t n l r ih =>
    intro s P w hv hc hK hP hT hT2
    obtain ⟨A, cap, rfl⟩ := hK.form
    rw [vld, Bool.and_eq_true] at hv
    rw [cnt] at hc
    obtain ⟨hz, hsum⟩ := kid_sz hv.2 (by omega)
    obtain ⟨⟨h1, h29, hlo, hhi, _⟩, hw, hnum⟩ := ok_parts wdB hv.1
    obtain ⟨hn, h20⟩ := num_parts hnum
    have ht : t.size ≤ 1048576 := Nat.le_trans (wd_size k t hw).1 (by omega)
    have hz9 : ∀ j need, j < r.length → (atT need (kd (PK r) j)).size ≤ 1000000000 := fun j need h => Nat.le_trans (hz j need h) (by omega)
    have hN : ∀ (j : Nat) (h : j < r.length) (W : World) (A : Option Addr) (cap : Nat), Below w.heap.size w W → Kc w P r[j].r (.slice A r[j].r.length cap) → Calls Tryz.prog 37 #[.agg #[.int .i64 r[j].k, .string r[j].t, .int .i64 r[j].n, .int .i64 r[j].l, .slice A r[j].r.length cap]] W fun e w' => e = .returned (.string (kd (PK r) j).2.2) ∧ Below W.heap.size W w' := fun j h W A cap hW hk => by
      rw [pK_get lvB cqB r h]
      exact ih j h _ P W (vldL_get wdB r h hv.2) (by have := cnt_get r h; omega) (hk.below hW hP) (fun b hb => Nat.lt_of_lt_of_le (hP b hb) hW.size) (tab_kept hT hW) (tab_kept hT2 hW)
    have hC : PrI w P r := fun j h need W A cap hW hk => by
      have hs := kd_size (PK r) j (by rw [pK_length]; exact h)
      have hN2 := fun W' (hW' : Below W.heap.size W W') => hN j h W' A cap (hW.trans (hW'.mono hW.size)) hk
      rw [pK_get lvB cqB r h] at hs hN2 ⊢
      exact implAt8 r[j].k r[j].t r[j].n r[j].l _ need _ W (tab_kept hT hW) (by simp only at hs; omega) hN2
    show Calls Tryz.prog 37 #[.agg #[.int .i64 k, .string t, .int .i64 n, .int .i64 l, .slice A r.length cap]] w fun e w' => e = .returned (.string (noT lvB cqB k t n (PK r))) ∧ Below w.heap.size w w'
    have hlen : (PK r).length = r.length := pK_length lvB cqB r
    rcases (show k = 1 ∨ k = 2 ∨ k = 3 ∨ k = 4 ∨ k = 5 ∨ k = 6 ∨ k = 7 ∨ k = 8 ∨ k = 9 ∨ k = 10 ∨ k = 11 ∨ k = 12 ∨ k = 13 ∨ k = 14 ∨ k = 15 ∨ k = 16 ∨ k = 17 ∨ k = 18 ∨ k = 19 ∨ k = 20 ∨ k = 21 ∨ k = 22 ∨ k = 23 ∨ k = 24 ∨ k = 25 ∨ k = 26 ∨ k = 27 ∨ k = 28 ∨ k = 29 by omega) with rfl | rfl | rfl | rfl | rfl | rfl | rfl | rfl | rfl | rfl | rfl | rfl | rfl | rfl | rfl | rfl | rfl | rfl | rfl | rfl | rfl | rfl | rfl | rfl | rfl | rfl | rfl | rfl | rfl
    · exact pi1 t n l _ _ w hT2 (by omega) ht
    · exact pi2 t n l _ _ w ht
    · exact pi3 t n l _ _ w ht
    · exact pi4 t n l _ _ w ht
    · exact pi5 t n l _ _ w ht
    · rw [show kidsR 6 = (0, 8) from rfl] at hlo hhi; simp only at hlo hhi; exact pi6 t n l r _ cap w P hK hP hC hz (by omega) (jo_bd _ _ _ hsum)
    · rw [show kidsR 7 = (1, 1) from rfl] at hlo hhi; simp only at hlo hhi; 
      by_cases h7 : (r[0]'(by omega)).k = 7
      · exact pi7a t n l r _ cap w P hK hP (by omega) hC (fun _ => h7) (fun h => hN 0 h) hz9 ht
      · exact pi7b t n l r _ cap w P hK hP (by omega) hC (fun _ => h7) hz9 ht
    · rw [show kidsR 8 = (2, 2) from rfl] at hlo hhi; simp only at hlo hhi; exact pi8 t n l r _ cap w P hK hP (by omega) hC hT hz9 ht
    · rw [show kidsR 9 = (2, 3) from rfl] at hlo hhi; simp only at hlo hhi; 
      by_cases h3 : r.length = 3
      · exact pi9_3 t n l r _ cap w P hK hP h3 hC hz9 ht
      · exact pi9_2 t n l r _ cap w P hK hP (by omega) hC hz9 ht
    · rw [show kidsR 10 = (1, 9) from rfl] at hlo hhi; simp only at hlo hhi; exact pi10 t n l r _ cap w P hK hP (by omega) hC hz (by omega) (jo_bd _ _ _ (Nat.le_trans (sumK_drop _ 1) hsum)) ht
    · rw [show kidsR 11 = (2, 2) from rfl] at hlo hhi; simp only at hlo hhi; exact pi11 t n l r _ cap w P hK hP (by omega) hC hz9 ht
    · rw [show kidsR 12 = (3, 3) from rfl] at hlo hhi; simp only at hlo hhi; exact pi12 t n l r _ cap w P hK hP (by omega) hC hz9 ht
    · rw [show kidsR 13 = (1, 1) from rfl] at hlo hhi; simp only at hlo hhi; exact pi13 t n l r _ cap w P hK hP (by omega) hC hz9 ht
    · rw [show kidsR 14 = (0, 24) from rfl] at hlo hhi; simp only at hlo hhi; exact pi14 t n l r _ cap w P hK hP hC hz (by omega) (jo_bd _ _ _ hsum)
    · rw [show kidsR 15 = (2, 3) from rfl] at hlo hhi; simp only at hlo hhi; exact pi15 t n l r _ cap w P hK hP hC hz (by omega)
    · rw [show kidsR 16 = (1, 2) from rfl] at hlo hhi; simp only at hlo hhi; exact pi16 t n l r _ cap w P hK hP hC hz (by omega)
    · rw [show kidsR 17 = (1, 2) from rfl] at hlo hhi; simp only at hlo hhi; exact pi17 t n l r _ cap w P hK hP hC hz (by omega)
    · rw [show kidsR 18 = (1, 2) from rfl] at hlo hhi; simp only at hlo hhi; exact pi18 t n l r _ cap w P hK hP hC hz (by omega)
    · rw [show kidsR 19 = (1, 1) from rfl] at hlo hhi; simp only at hlo hhi; exact pi19 t n l r _ cap w P hK hP hC hz (by omega)
    · rw [show kidsR 20 = (1, 14) from rfl] at hlo hhi; simp only at hlo hhi; 
      obtain ⟨M, hM⟩ := half (h20 rfl)
      obtain ⟨hzj, hzc⟩ := ca_bd n (PK r) (by rw [hlen]; omega) hsum
      exact pi20 20 rfl t n l _ _ w fun W hW => implCase8 t n l r _ cap W P (hK.below hW hP) (fun b hb => Nat.lt_of_lt_of_le (hP b hb) hW.size) (by omega) (hC.mono hW hP) hz (by omega) (h20 rfl).1 M hM hzj hzc
    · rw [show kidsR 21 = (0, 1) from rfl] at hlo hhi; simp only at hlo hhi; exact pi21 t n l r _ cap w P hK hP hC hz (by omega)
    · rw [show kidsR 22 = (0, 2) from rfl] at hlo hhi; simp only at hlo hhi; exact pi22 t n l r _ cap w P hK hP hC hz (by omega)
    · exact pi23 t n l _ _ w ht
    · rw [show kidsR 24 = (0, 1) from rfl] at hlo hhi; simp only at hlo hhi; exact pi24 t n l r _ cap w P hK hP hC hz (by omega)
    · exact pi25 t n l _ _ w ht
    · rw [show kidsR 26 = (1, 1) from rfl] at hlo hhi; simp only at hlo hhi; exact pi26 t n l r _ cap w P hK hP hC hz (by omega)
    · rw [show kidsR 27 = (1, 1) from rfl] at hlo hhi; simp only at hlo hhi; exact pi27 t n l r _ cap w P hK hP (by omega) hC hz9 ht
    · exact pi28 t n l _ _ w ht
    · rw [show kidsR 29 = (2, 8) from rfl] at hlo hhi; simp only at hlo hhi; exact pi29 t n l r _ cap w P hK hP hC hz (by omega) (jo_bd _ _ _ hsum)
set_option maxRecDepth 20000 in
set_option maxHeartbeats 4000000 in
theorem specPrint (x : X) : ∀ (s : Value) (P : Nat → Prop) (w : World), vld wdB x = true → cnt x ≤ 600 → Kc w P x.r s → (∀ b, P b → b < w.heap.size) →
    Calls Tryz.prog 30 #[val x s] w fun e w' => e = .returned (.string (PN x)) ∧ Below w.heap.size w w' := by
  induction x using X.ind with
  | h k t n l r ih =>
    intro s P w hv hc hK hP
    obtain ⟨A, cap, rfl⟩ := hK.form
    rw [vld, Bool.and_eq_true] at hv
    rw [cnt] at hc
    obtain ⟨hz, hsum⟩ := kid_sz hv.2 (by omega)
    obtain ⟨⟨h1, h29, hlo, hhi, _⟩, hw, hnum⟩ := ok_parts wdB hv.1
    obtain ⟨hn, h20⟩ := num_parts hnum
    have ht : t.size ≤ 1048576 := Nat.le_trans (wd_size k t hw).1 (by omega)
    have hz9 : ∀ j need, j < r.length → (atT need (kd (PK r) j)).size ≤ 1000000000 := fun j need h => Nat.le_trans (hz j need h) (by omega)
    have hN : ∀ (j : Nat) (h : j < r.length) (W : World) (A : Option Addr) (cap : Nat), Below w.heap.size w W → Kc w P r[j].r (.slice A r[j].r.length cap) → Calls Tryz.prog 30 #[.agg #[.int .i64 r[j].k, .string r[j].t, .int .i64 r[j].n, .int .i64 r[j].l, .slice A r[j].r.length cap]] W fun e w' => e = .returned (.string (kd (PK r) j).2.2) ∧ Below W.heap.size W w' := fun j h W A cap hW hk => by
      rw [pK_get lvB cqB r h]
      exact ih j h _ P W (vldL_get wdB r h hv.2) (by have := cnt_get r h; omega) (hk.below hW hP) (fun b hb => Nat.lt_of_lt_of_le (hP b hb) hW.size)
    have hC : PrS w P r := fun j h need W A cap hW hk => by
      have hs := kd_size (PK r) j (by rw [pK_length]; exact h)
      have hN2 := fun W' (hW' : Below W.heap.size W W') => hN j h W' A cap (hW.trans (hW'.mono hW.size)) hk
      rw [pK_get lvB cqB r h] at hs hN2 ⊢
      exact specAt8 r[j].k r[j].t r[j].n r[j].l _ need _ W (by simp only at hs; omega) hN2
    show Calls Tryz.prog 30 #[.agg #[.int .i64 k, .string t, .int .i64 n, .int .i64 l, .slice A r.length cap]] w fun e w' => e = .returned (.string (noT lvB cqB k t n (PK r))) ∧ Below w.heap.size w w'
    have hlen : (PK r).length = r.length := pK_length lvB cqB r
    rcases (show k = 1 ∨ k = 2 ∨ k = 3 ∨ k = 4 ∨ k = 5 ∨ k = 6 ∨ k = 7 ∨ k = 8 ∨ k = 9 ∨ k = 10 ∨ k = 11 ∨ k = 12 ∨ k = 13 ∨ k = 14 ∨ k = 15 ∨ k = 16 ∨ k = 17 ∨ k = 18 ∨ k = 19 ∨ k = 20 ∨ k = 21 ∨ k = 22 ∨ k = 23 ∨ k = 24 ∨ k = 25 ∨ k = 26 ∨ k = 27 ∨ k = 28 ∨ k = 29 by omega) with rfl | rfl | rfl | rfl | rfl | rfl | rfl | rfl | rfl | rfl | rfl | rfl | rfl | rfl | rfl | rfl | rfl | rfl | rfl | rfl | rfl | rfl | rfl | rfl | rfl | rfl | rfl | rfl | rfl
    · exact pj1 t n l _ _ w (by omega) ht
    · exact pj2 t n l _ _ w ht
    · exact pj3 t n l _ _ w ht
    · exact pj4 t n l _ _ w ht
    · exact pj5 t n l _ _ w ht
    · rw [show kidsR 6 = (0, 8) from rfl] at hlo hhi; simp only at hlo hhi; exact pj6 t n l r _ cap w P hK hP hC hz (by omega) (jo_bd _ _ _ hsum)
    · rw [show kidsR 7 = (1, 1) from rfl] at hlo hhi; simp only at hlo hhi; 
      by_cases h7 : (r[0]'(by omega)).k = 7
      · exact pj7a t n l r _ cap w P hK hP (by omega) hC (fun _ => h7) (fun h => hN 0 h) hz9 ht
      · exact pj7b t n l r _ cap w P hK hP (by omega) hC (fun _ => h7) hz9 ht
    · rw [show kidsR 8 = (2, 2) from rfl] at hlo hhi; simp only at hlo hhi; exact pj8 t n l r _ cap w P hK hP (by omega) hC hz9 ht
    · rw [show kidsR 9 = (2, 3) from rfl] at hlo hhi; simp only at hlo hhi; 
      by_cases h3 : r.length = 3
      · exact pj9_3 t n l r _ cap w P hK hP h3 hC hz9 ht
      · exact pj9_2 t n l r _ cap w P hK hP (by omega) hC hz9 ht
    · rw [show kidsR 10 = (1, 9) from rfl] at hlo hhi; simp only at hlo hhi; exact pj10 t n l r _ cap w P hK hP (by omega) hC hz (by omega) (jo_bd _ _ _ (Nat.le_trans (sumK_drop _ 1) hsum)) ht
    · rw [show kidsR 11 = (2, 2) from rfl] at hlo hhi; simp only at hlo hhi; exact pj11 t n l r _ cap w P hK hP (by omega) hC hz9 ht
    · rw [show kidsR 12 = (3, 3) from rfl] at hlo hhi; simp only at hlo hhi; exact pj12 t n l r _ cap w P hK hP (by omega) hC hz9 ht
    · rw [show kidsR 13 = (1, 1) from rfl] at hlo hhi; simp only at hlo hhi; exact pj13 t n l r _ cap w P hK hP (by omega) hC hz9 ht
    · rw [show kidsR 14 = (0, 24) from rfl] at hlo hhi; simp only at hlo hhi; exact pj14 t n l r _ cap w P hK hP hC hz (by omega) (jo_bd _ _ _ hsum)
    · rw [show kidsR 15 = (2, 3) from rfl] at hlo hhi; simp only at hlo hhi; exact pj15 t n l r _ cap w P hK hP hC hz (by omega)
    · rw [show kidsR 16 = (1, 2) from rfl] at hlo hhi; simp only at hlo hhi; exact pj16 t n l r _ cap w P hK hP hC hz (by omega)
    · rw [show kidsR 17 = (1, 2) from rfl] at hlo hhi; simp only at hlo hhi; exact pj17 t n l r _ cap w P hK hP hC hz (by omega)
    · rw [show kidsR 18 = (1, 2) from rfl] at hlo hhi; simp only at hlo hhi; exact pj18 t n l r _ cap w P hK hP hC hz (by omega)
    · rw [show kidsR 19 = (1, 1) from rfl] at hlo hhi; simp only at hlo hhi; exact pj19 t n l r _ cap w P hK hP hC hz (by omega)
    · rw [show kidsR 20 = (1, 14) from rfl] at hlo hhi; simp only at hlo hhi; 
      obtain ⟨M, hM⟩ := half (h20 rfl)
      obtain ⟨hzj, hzc⟩ := ca_bd n (PK r) (by rw [hlen]; omega) hsum
      exact pj20 t n l r _ cap w P hK hP (by omega) hC hz (by omega) (h20 rfl).1 M hM hzj hzc
    · rw [show kidsR 21 = (0, 1) from rfl] at hlo hhi; simp only at hlo hhi; exact pj21 t n l r _ cap w P hK hP hC hz (by omega)
    · rw [show kidsR 22 = (0, 2) from rfl] at hlo hhi; simp only at hlo hhi; exact pj22 t n l r _ cap w P hK hP hC hz (by omega)
    · exact pj23 t n l _ _ w ht
    · rw [show kidsR 24 = (0, 1) from rfl] at hlo hhi; simp only at hlo hhi; exact pj24 t n l r _ cap w P hK hP hC hz (by omega)
    · exact pj25 t n l _ _ w ht
    · rw [show kidsR 26 = (1, 1) from rfl] at hlo hhi; simp only at hlo hhi; exact pj26 t n l r _ cap w P hK hP hC hz (by omega)
    · rw [show kidsR 27 = (1, 1) from rfl] at hlo hhi; simp only at hlo hhi; exact pj27 t n l r _ cap w P hK hP (by omega) hC hz9 ht
    · exact pj28 t n l _ _ w ht
    · rw [show kidsR 29 = (2, 8) from rfl] at hlo hhi; simp only at hlo hhi; exact pj29 t n l r _ cap w P hK hP hC hz (by omega) (jo_bd _ _ _ hsum)
end X
end Go.Proofs.YtljblaglfooclaaGreatDoor

namespace Go.Proofs.YtljblaglfooclaaGreatDoor
open Go.RowKit
namespace X

/-- What PrintExpression answers. -/
def prOut (x : X) : ByteArray × Bool := if vldE wdB x = true ∧ (PN x).size ≤ 6000 then (PN x, true) else (⟨#[]⟩, false)
end X
end Go.Proofs.YtljblaglfooclaaGreatDoor
