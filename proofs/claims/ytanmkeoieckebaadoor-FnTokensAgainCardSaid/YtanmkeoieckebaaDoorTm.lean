/- Proved here: how tokens of the call's own lie in memory; what the law's eqTokenS, markTokenS and heldTokenS do with them. Condition: the counters fit. -/
import Derived.Test.YtanmkeoieckebaaDoorGw
import Derived.Test.YtanmkeoieckebaaDoorLxA
import Derived.Test.YtanmkeoieckebaaDoorTq
import Derived.Test.YtanmkeoieckebaaDoorMk
import Derived.Test.YtanmkeoieckebaaDoorMh
namespace Go.Proofs.YtanmkeoieckebaaDoor
open Go.RowKit

/-- A token's cells. -/
def tkC (x : Tk) : List Value := [.int .i64 x.k, .string (mkT x.t), .int .i64 (x.l : Int)]
theorem tkC_len (x : Tk) : (tkC x).length = 3 := rfl
theorem tkC_one (x : Tk) : ∀ u ∈ tkC x, u.oneCell' = true := by
  intro u hu
  simp only [tkC, List.mem_cons, List.not_mem_nil, or_false] at hu
  rcases hu with rfl | rfl | rfl <;> rfl
/-- The marks of n tokens, from k on. -/
def tkM (k n : Nat) : List Tk := (List.range n).map fun j => ⟨((k + 3 * j : Nat) : Int), 109 :: decD (k + 3 * j + 1), k + 3 * j + 2⟩
theorem tkM_len (k n : Nat) : (tkM k n).length = n := by simp [tkM]
theorem tkM_at {k n j : Nat} (h : j < (tkM k n).length) : (tkM k n)[j] = ⟨((k + 3 * j : Nat) : Int), 109 :: decD (k + 3 * j + 1), k + 3 * j + 2⟩ := by simp [tkM]
theorem tkM_snoc (k j : Nat) : tkM k (j + 1) = tkM k j ++ [⟨((k + 3 * j : Nat) : Int), 109 :: decD (k + 3 * j + 1), k + 3 * j + 2⟩] := by simp [tkM, List.range_succ]
theorem mkT_mark (n : Nat) : mkT (109 :: decD n) = markT n := rfl
theorem tk_set3 (l : List Tk) (j : Nat) (h : j < l.length) (y : Tk) : (((l.flatMap tkC).set (j * 3) (.int .i64 y.k)).set (j * 3 + 1) (.string (mkT y.t))).set (j * 3 + 2) (.int .i64 (y.l : Int)) = (l.set j y).flatMap tkC := by
  have e1 := flat_set tkC_len l h 0 (by omega) (.int .i64 y.k) ⟨y.k, l[j].t, l[j].l⟩ rfl
  rw [Nat.add_zero] at e1
  rw [e1]
  have e2 := flat_set tkC_len (l.set j ⟨y.k, l[j].t, l[j].l⟩) (i := j) (by simpa using h) 1 (by omega) (.string (mkT y.t)) ⟨y.k, y.t, l[j].l⟩ (by simp [tkC])
  rw [e2, List.set_set]
  have e3 := flat_set tkC_len (l.set j ⟨y.k, y.t, l[j].l⟩) (i := j) (by simpa using h) 2 (by omega) (.int .i64 (y.l : Int)) y (by simp [tkC])
  rw [e3, List.set_set]
theorem tkM_set (l : List Tk) (k j : Nat) (h : j < l.length) : (tkM k j ++ l.drop j).set j ⟨((k + 3 * j : Nat) : Int), 109 :: decD (k + 3 * j + 1), k + 3 * j + 2⟩ = tkM k (j + 1) ++ l.drop (j + 1) := by
  rw [List.set_append_right _ _ (by rw [tkM_len]; omega), tkM_len, Nat.sub_self, List.drop_eq_getElem_cons h, List.set_cons_zero, tkM_snoc, List.append_assoc]; rfl
theorem own_some {w : World} {B : Nat} {e : TypeId} {size g n cap : Nat} {xs : List Value} (h : w.ownsRow B e size (.slice (some ⟨g, 0, none⟩) n cap) n xs) {j : Nat} (hj : j < n * size) : ∃ u, w.cell? ⟨g, j, none⟩ = some u := by
  rw [World.ownsRow.cellAt h j hj]
  have := h.1
  exact ⟨_, List.getElem?_eq_getElem (by omega)⟩
/-- The tokens l lie in the slice v, in a block of the call's own from B on. -/
abbrev TOwn (w : World) (B : Nat) (v : Value) (l : List Tk) : Prop := w.ownsRow B 61 3 v l.length (l.flatMap tkC)
theorem TOwn.nil (w : World) (B : Nat) : TOwn w B (.slice none 0 0) [] := World.ownsRow_nil _ _ _ _
theorem TOwn.form {w : World} {B : Nat} {v : Value} {l : List Tk} (h : TOwn w B v l) : ∃ A cap, v = .slice A l.length cap := ownsRow_form h
theorem TOwn.kept {w w' : World} {B : Nat} {v : Value} {l : List Tk} (h : TOwn w B v l) (hb : Below w.heap.size w w') : TOwn w' B v l :=
  ownsRow_keep h fun k hk => hb.block k (h.lt k hk).2
theorem TOwn.at_ {w : World} {B : Nat} {l : List Tk} {A : Option Addr} {n cap : Nat} (h : TOwn w B (.slice A n cap) l) {j : Nat} (hj : j < l.length) :
    ∃ g, A = some ⟨g, 0, none⟩ ∧ (B ≤ g ∧ g < w.heap.size) ∧ w.cell? ⟨g, j * 3, none⟩ = some (.int .i64 l[j].k) ∧ w.cell? ⟨g, j * 3 + 1, none⟩ = some (.string (mkT l[j].t)) ∧ w.cell? ⟨g, j * 3 + 2, none⟩ = some (.int .i64 (l[j].l : Int)) := by
  obtain ⟨A', cap', e⟩ := h.form
  injection e with e1 e2 e3
  subst e2 e3 e1
  obtain ⟨g, hA⟩ : ∃ g, A = some ⟨g, 0, none⟩ := by
    rcases h.2 with ⟨e, h0⟩ | ⟨g, c, cur, e, _⟩
    · omega
    · exact ⟨g, by injection e⟩
  subst hA
  have c : ∀ i, i < 3 → w.cell? ⟨g, j * 3 + i, none⟩ = (tkC l[j])[i]? := fun i hi => by
    rw [World.ownsRow.cellAt h (j * 3 + i) (by omega)]
    exact flat_get tkC_len l hj i hi
  exact ⟨g, rfl, h.lt g rfl, c 0 (by omega), c 1 (by omega), c 2 (by omega)⟩
set_option maxRecDepth 20000 in
theorem eqTk (k : Int) (t : ByteArray) (l : Int) (w : World) : Calls Tryd.prog 61 #[tkV k t l, tkV k t l] w fun e w' => e = .returned (.bool true) ∧ Below w.heap.size w w' := by
  have b1 := teq_same t
  unfold tkV
  go_enter Tryd.func61, Tryd.ntmps61
  go_wp2
  go_ret
  exact ⟨rfl, by repeat (first | exact Below.refl _ _ | refine Below.drew ?_ | refine Below.setCell ?_ (by (try simp); try omega) _ | refine Below.alloc ?_ (by (try simp); try omega) _)⟩
set_option maxRecDepth 20000 in
set_option maxHeartbeats 2000000 in
theorem eqTkS (l : List Tk) (v v' : Value) (B B' : Nat) (w : World) (hA : TOwn w B v l) (hA' : TOwn w B' v' l) (hl : l.length ≤ 1099511627776) :
    Calls Tryd.prog 27 #[v, v'] w fun e w' => e = .returned (.bool true) ∧ Below w.heap.size w w' := by
  obtain ⟨A, cap, rfl⟩ := hA.form
  obtain ⟨A', cap', rfl⟩ := hA'.form
  have HE := Lib.hid eqTk
  go_enter Tryd.func27, Tryd.ntmps27
  go_wp2_with fail
  go_loopw [5] (fun i wr => ∃ j : Nat, i = .int .i64 j ∧ j ≤ l.length ∧ Below w.heap.size w wr)
    (fun i _ => l.length - (intOf i).toNat)
  case atStart => exact ⟨0, rfl, by omega, Below.refl _ _⟩
  case round =>
    obtain ⟨j, rfl, hj, hb⟩ := hrel
    have hsz := hb.size
    by_cases hlt : j < l.length
    · obtain ⟨g, rfl, hg, c0, c1, c2⟩ := TOwn.at_ (hA.kept hb) hlt
      obtain ⟨g', rfl, hg', d0, d1, d2⟩ := TOwn.at_ (hA'.kept hb) hlt
      have i1 : (j : Int) < (l.length : Int) := by omega
      have hC := fun W => eqTk l[j].k (mkT l[j].t) l[j].l W
      generalize l[j].k = x0 at c0 d0 hC
      generalize mkT l[j].t = x1 at c1 d1 hC
      generalize (l[j].l : Int) = x2 at c2 d2 hC
      clear HE
      go_wp2_with fail
      go_still_tail 8, (by kernel_rfl)
      change wpList _ _ _ _ _ wr.drew
      go_wp2_with (go_at_call 61; refine (hC _).mono ?_; rintro e w1 ⟨rfl, hb1⟩)
      go_roundw
      case rel => exact ⟨j + 1, by go_num, by omega, (hb.drew).trans (hb1.mono hsz)⟩
      case measure => simp [intOf]; omega
    · obtain rfl : j = l.length := by omega
      go_wp2_with fail
      go_ret
      exact ⟨rfl, hb⟩
set_option maxRecDepth 20000 in
set_option maxHeartbeats 4000000 in
theorem markTk (l : List Tk) (s : Value) (B k0 : Nat) (w : World) (hK : TOwn w B s l) (hk0 : 0 < k0) (hkc : k0 + 3 * l.length ≤ 1099511627776) :
    Calls Tryd.prog 28 #[s, .int .i64 (k0 : Int)] w fun e w' => e = .returned (.int .i64 ((k0 + 3 * l.length : Nat) : Int)) ∧ TOwn w' B s (tkM k0 l.length) ∧ w.grownBy w' s.ownBlock := by
  obtain ⟨A, cap, rfl⟩ := hK.form
  go_enter Tryd.func28, Tryd.ntmps28
  go_wp2_with fail
  go_loopw [1, 5] (fun a i wr => ∃ j m : Nat, i = .int .i64 j ∧ a = .int .i64 m ∧ Hid (m = k0 + 3 * j) ∧ 0 < m ∧ m ≤ 1099511627776 ∧ j ≤ l.length ∧ Hid (TOwn wr B (.slice A l.length cap) (tkM k0 j ++ l.drop j) ∧ w.grownBy wr (Value.slice A l.length cap).ownBlock))
    (fun _ i _ => l.length - (intOf i).toNat)
  case atStart => exact ⟨0, k0, rfl, rfl, Lib.hid (by simp), by omega, by omega, by omega, Lib.hid ⟨by simpa [tkM] using hK, only_refl _ _⟩⟩
  case round =>
    obtain ⟨j, m, rfl, rfl, HM, hm0, hm, hj, HO⟩ := hrel
    by_cases hlt : j < l.length
    · obtain ⟨ho, hg⟩ := HO.out
      have hll : (tkM k0 j ++ l.drop j).length = l.length := by simp [tkM_len]; omega
      have ho' : wr.ownsRow B 61 3 (.slice A l.length cap) l.length ((tkM k0 j ++ l.drop j).flatMap tkC) := by have := ho; unfold TOwn at this; rw [hll] at this; exact this
      obtain ⟨g, hA, hgb, -, -, -⟩ := TOwn.at_ ho (j := j) (by omega)
      subst hA
      obtain ⟨u0, c0⟩ := own_some ho' (j := j * 3) (by omega)
      obtain ⟨m1, hm1⟩ : ∃ z, z = m + 1 := ⟨_, rfl⟩
      obtain ⟨m2, hm2⟩ : ∃ z, z = m1 + 1 := ⟨_, rfl⟩
      obtain ⟨m3, hm3⟩ : ∃ z, z = m2 + 1 := ⟨_, rfl⟩
      have i1 : (m : Int) + 1 = (m1 : Int) := by omega
      have i2 : (m1 : Int) + 1 = (m2 : Int) := by omega
      have i3 : (m2 : Int) + 1 = (m3 : Int) := by omega
      have i0 : (j : Int) < (l.length : Int) := by omega
      have hM : ∀ W : World, Calls Tryd.prog 62 #[.int .i64 (m1 : Int)] W fun e w' => e = .returned (.string (markT m1)) ∧ Below W.heap.size W w' := fun W => markText m1 (by omega) (by have := HM.out; omega) W
      have f0 := World.ownsRow.frozenAt ho' (j * 3)
      have HS := Lib.hid (show (((((tkM k0 j ++ l.drop j).flatMap tkC).set (j * 3) (.int .i64 (m : Int))).set (j * 3 + 1) (.string (markT m1))).set (j * 3 + 2) (.int .i64 (m2 : Int))) = (tkM k0 (j + 1) ++ l.drop (j + 1)).flatMap tkC by
        rw [← tkM_set l k0 j hlt, ← tk_set3 _ j (by omega), mkT_mark, ← HM.out, hm2, hm1])
      have HN := Lib.hid (show m3 = k0 + 3 * (j + 1) by have := HM.out; omega)
      have hm3' : m3 ≤ 1099511627776 := by have := HM.out; omega
      have hm3'' : 0 < m3 := by omega
      have o1 := (World.ownsRow.stored ho' (j * 3) (.int .i64 (m : Int))).1
      have g1 : w.grownBy (wr.setCell ⟨g, j * 3, none⟩ (.int .i64 (m : Int))) (some g) := only_set hg _ _
      have O1 := Lib.hid o1
      have G1 := Lib.hid g1
      clear HM hm1 hm2 hm3 HO ho hg ho' o1 g1 hll
      go_wp2_with (go_at_call 62; refine (hM _).mono ?_; rintro e w2 ⟨rfl, hb2⟩; have o2 := ownsRow_keep O1.out (fun k hk => hb2.block k (O1.out.lt k hk).2); have f2 := World.ownsRow.frozenAt o2 (j * 3 + 1); obtain ⟨u1, q0⟩ := own_some o2 (j := j * 3 + 1) (by omega); have o3 := (World.ownsRow.stored o2 (j * 3 + 1) (.string (markT m1))).1; have f3 := World.ownsRow.frozenAt o3 (j * 3 + 2); obtain ⟨u2, q2⟩ := own_some o3 (j := j * 3 + 2) (by omega))
      have o4 := Lib.hid (show (((w2.setCell ⟨g, j * 3 + 1, none⟩ (.string (markT m1))).setCell ⟨g, j * 3 + 2, none⟩ (.int .i64 (m2 : Int)))).ownsRow B 61 3 (.slice (some ⟨g, 0, none⟩) l.length cap) l.length ((tkM k0 (j + 1) ++ l.drop (j + 1)).flatMap tkC) by
        rw [← HS.out]; exact (World.ownsRow.stored o3 (j * 3 + 2) _).1)
      have hG2 := Lib.hid (show w.grownBy ((w2.setCell ⟨g, j * 3 + 1, none⟩ (.string (markT m1))).setCell ⟨g, j * 3 + 2, none⟩ (.int .i64 (m2 : Int))) (some g) from only_set (only_set (only_below G1.out hb2) _ _) _ _)
      have hll2 : (tkM k0 (j + 1) ++ l.drop (j + 1)).length = l.length := by simp [tkM_len]; omega
      go_roundw
      case rel => exact ⟨j + 1, m3, by go_num, rfl, HN, hm3'', hm3', by omega, Lib.hid ⟨by unfold TOwn; rw [hll2]; exact o4.out, hG2.out⟩⟩
      case measure => simp [intOf]; omega
    · obtain rfl : j = l.length := by omega
      obtain ⟨ho, hg⟩ := HO.out
      rw [List.drop_length, List.append_nil] at ho
      have HN := Lib.hid (show m = k0 + 3 * l.length from HM.out)
      have HK := Lib.hid (And.intro ho hg)
      clear HM HO ho hg
      go_wp2_with fail
      go_ret
      exact ⟨ret_nn HN.out, HK.out.1, HK.out.2⟩
set_option maxRecDepth 20000 in
set_option maxHeartbeats 4000000 in
theorem heldTk (n k0 : Nat) (s : Value) (B : Nat) (w : World) (hK : TOwn w B s (tkM k0 n)) (hk0 : 0 < k0) (hkc : k0 + 3 * n ≤ 1099511627776) :
    Calls Tryd.prog 29 #[s, .int .i64 (k0 : Int)] w fun e w' => e = .returned (.int .i64 ((k0 + 3 * n : Nat) : Int)) ∧ Below w.heap.size w w' := by
  obtain ⟨A, cap, hs⟩ := hK.form
  rw [tkM_len] at hs
  subst hs
  go_enter Tryd.func29, Tryd.ntmps29
  go_wp2_with fail
  go_loopw [1, 5] (fun a i wr => ∃ j m : Nat, i = .int .i64 j ∧ a = .int .i64 m ∧ Hid (m = k0 + 3 * j) ∧ 0 < m ∧ m ≤ 1099511627776 ∧ j ≤ n ∧ Below w.heap.size w wr)
    (fun _ i _ => n - (intOf i).toNat)
  case atStart => exact ⟨0, k0, rfl, rfl, Lib.hid (by simp), by omega, by omega, by omega, Below.refl _ _⟩
  case round =>
    obtain ⟨j, m, rfl, rfl, HM, hm0, hm, hj, hb⟩ := hrel
    have hsz := hb.size
    by_cases hlt : j < n
    · obtain ⟨g, rfl, hgb, c0, c1, c2⟩ := TOwn.at_ (hK.kept hb) (j := j) (by rw [tkM_len]; exact hlt)
      simp only [tkM_at] at c0 c1 c2
      rw [← HM.out] at c0 c1 c2
      rw [mkT_mark] at c1
      obtain ⟨m1, hm1⟩ : ∃ z, z = m + 1 := ⟨_, rfl⟩
      obtain ⟨m2, hm2⟩ : ∃ z, z = m1 + 1 := ⟨_, rfl⟩
      obtain ⟨m3, hm3⟩ : ∃ z, z = m2 + 1 := ⟨_, rfl⟩
      rw [← hm1] at c1
      rw [show m + 2 = m2 by omega] at c2
      have i1 : (m : Int) + 1 = (m1 : Int) := by omega
      have i2 : (m1 : Int) + 1 = (m2 : Int) := by omega
      have i3 : (m2 : Int) + 1 = (m3 : Int) := by omega
      have i0 : (j : Int) < (n : Int) := by omega
      have hM : ∀ W : World, Calls Tryd.prog 62 #[.int .i64 (m1 : Int)] W fun e w' => e = .returned (.string (markT m1)) ∧ Below W.heap.size W w' := fun W => markText m1 (by omega) (by have := HM.out; omega) W
      have HN := Lib.hid (show m3 = k0 + 3 * (j + 1) by have := HM.out; omega)
      have hm3' : m3 ≤ 1099511627776 := by have := HM.out; omega
      have hm3'' : 0 < m3 := by omega
      have b2 := teq_same (markT m1)
      clear HM hm1 hm2 hm3
      go_wp2_with fail
      go_region_held3 (fun w' => w'.cell? ⟨g, j * 3 + 1, none⟩ = some (.string (markT m1))) ((refine kc1 (W := wr) ?_ c1; repeat (first | exact Below.refl _ _ | refine Below.drew ?_ | refine Below.alloc ?_ (by (try simp); try omega) _ | refine Below.trans ?_ (hb3.mono (by (try simp); try omega)) | refine Below.trans ?_ (hb4.mono (by (try simp); try omega)) | refine Below.trans ?_ (hb5.mono (by (try simp); try omega)))))
        (first | (go_at_call 62; refine (hM _).mono ?_; rintro e w3 ⟨rfl, hb3⟩; have hw3 : Below wr.heap.size wr w3 := Below.trans (by repeat (first | exact Below.refl _ _ | refine Below.drew ?_ | refine Below.setCell ?_ (by (try simp); try omega) _ | refine Below.alloc ?_ (by (try simp); try omega) _)) (hb3.mono (by simp)); have c2' := kc1 hw3 c2))
      all_goals
        go_wp2_with fail
        go_roundw
        case rel => exact ⟨j + 1, m3, by go_num, rfl, HN, hm3'', hm3', by omega, hb.trans (hw3.mono hsz)⟩
        case measure => simp [intOf]; omega
    · obtain rfl : j = n := by omega
      have HN := Lib.hid (show m = k0 + 3 * j from HM.out)
      clear HM
      go_wp2_with fail
      go_ret
      exact ⟨ret_nn HN.out, hb⟩
end Go.Proofs.YtanmkeoieckebaaDoor
