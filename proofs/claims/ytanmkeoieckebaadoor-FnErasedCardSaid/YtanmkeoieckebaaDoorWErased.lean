/- Proved here: the walk of the law FnErased: the call returns true and leaves all older memory as it was. Condition: the arguments are of their types; the listed tables lie as listed. -/
import Derived.Test.YtanmkeoieckebaaDoorTf
import Derived.Test.YtanmkeoieckebaaDoorVh
import Derived.Test.YtanmkeoieckebaaDoorEq
import Derived.Test.YtanmkeoieckebaaDoorCn
import Derived.Test.YtanmkeoieckebaaDoorXw
import Derived.Test.YtanmkeoieckebaaDoorCd
import Derived.Test.YtanmkeoieckebaaDoorEr
namespace Go.Proofs.YtanmkeoieckebaaDoor.lErased
open Go.RowKit

open X
mutual
theorem siz_er : ∀ x : X, siz (er x) = siz x
  | .mk k t n l r => by simp [er, siz, siz_erL r, erL_length]
theorem siz_erL : ∀ r : List X, sizL (erL r) = sizL r
  | [] => rfl
  | x :: r => by simp [erL, sizL, siz_er x, siz_erL r]
end
/-- A load, under a name of its own: the walk then leaves it where it isn't wanted. -/
def ldE : Op := .load 29 (.tmp 4)
set_option maxRecDepth 20000 in
set_option maxHeartbeats 2000000 in
theorem walk (w : World) (hL : laidMetH Tryd.prog Rows.fnErasedRow.laid w) (A : Option Addr) (n cap : Nat) (hn : n ≤ maxLen) (hc : n ≤ 1048576 → CodeAt w A n) : Calls Tryd.prog 4 #[.slice A n cap] w fun e w' => e = .returned (.bool true) ∧ Below w.heap.size w w' := by
  unfold maxLen at hn
  by_cases hbig : n ≤ 1048576
  · have hTab := tabA hL
    have hD := drawEraseLines A n cap w (hc hbig)
    clear hc hL
    go_enter Tryd.func4, Tryd.ntmps4
    go_upto_region 3 with go_in
    go_upto_region 4 with (go_at_call 15; refine hD.mono ?_; rintro e w1 ⟨x, s, hX, rfl, hR, hb1⟩; obtain ⟨A1, cap1, rfl⟩ := hR.kids.form; obtain ⟨k, t, m, l, r⟩ := x; unfold val)
    clear hD
    obtain ⟨hw, hs⟩ := hX
    have hI0 := fun (W : World) (hW : Below w1.heap.size w1 W) => implErase (.mk k t m l r) _ (· < w1.heap.size) W (Rd.below (Rd.keep (P' := (· < w1.heap.size)) (fun _ _ => rfl) (fun b hb => hb.2) hR) hW fun _ h => h) (fun _ h => Nat.lt_of_lt_of_le h hW.size) (by omega)
    obtain ⟨r2, hr2⟩ : ∃ r2, r2 = erL r := ⟨_, rfl⟩
    replace hI0 : ∀ (W : World), Below w1.heap.size w1 W → Calls Tryd.prog 16 #[.agg #[.int .i64 k, .string t, .int .i64 m, .int .i64 l, .slice A1 r.length cap1]] W fun e w' => ∃ A cap F, e = .returned (.agg #[.int .i64 k, .string t, .int .i64 m, .int .i64 0, .slice A r2.length cap]) ∧ Ok w' W.heap.size r2 (.slice A r2.length cap) F ∧ F.Nodup ∧ Below W.heap.size W w' := fun W hW => by
      have h := hI0 W hW
      rw [hr2, erL_length]
      exact h
    have hcw : cnt (.mk k t m l r) ≤ 1099511627776 := by have := cnt_le (.mk k t m l r); omega
    have hcc : cnt (.mk k t m 0 r2) = cnt (.mk k t m l r) := by rw [hr2]; exact er_cnt (.mk k t m l r)
    have hdd : dep (.mk k t m 0 r2) = dep (.mk k t m l r) := by rw [hr2]; exact er_dep (.mk k t m l r)
    have hwe : Wf (.mk k t m 0 r2) := by rw [hr2]; exact Wf_er _ hw
    have hse : siz (.mk k t m 0 r2) ≤ 1048576 := by rw [hr2]; exact Nat.le_trans (Nat.le_of_eq (siz_er (.mk k t m l r))) hs
    have hve : vldE wdB (.mk k t m l r) = true → vldE wdB (.mk k t m 0 r2) = true := fun h => by rw [hr2]; exact vldE_er wdB h
    have hee : erL r2 = r2 := by rw [hr2]; exact er_erL r
    have hzr : Below w.heap.size w w1 := hb1
    clear hr2
    go_upto_region 5 with (go_at_call 16; refine (hI0 _ (by repeat (first | exact Below.refl _ _ | refine Below.drew ?_ | refine Below.setCell ?_ (by (try simp); try omega) _ | refine Below.alloc ?_ (by (try simp); try omega) _))).mono ?_; rintro e w2 ⟨A2, cap2, F2, rfl, hk2, -, hb2⟩)
    have hb12 : Below w1.heap.size w1 w2 := Below.trans (by repeat (first | exact Below.refl _ _ | refine Below.drew ?_ | refine Below.setCell ?_ (by (try simp); try omega) _ | refine Below.alloc ?_ (by (try simp); try omega) _)) (hb2.mono (by simp))
    have hz12 : w1.heap.size < w2.heap.size := by have := hb2.size; simp at this; omega
    have hx := ((Var.new w1 k t m l (.slice A1 r.length cap1) 29).kept hb2).alloc (.cells #[.int .i64 k, .string t, .int .i64 m, .int .i64 0, .slice A2 r2.length cap2] 29)
    have hy := Var.new w2 k t m 0 (.slice A2 r2.length cap2) 29
    have hb2W : Below w2.heap.size w2 (w2.alloc (.cells #[.int .i64 k, .string t, .int .i64 m, .int .i64 0, .slice A2 r2.length cap2] 29)) := by repeat (first | exact Below.refl _ _ | refine Below.drew ?_ | refine Below.setCell ?_ (by (try simp); try omega) _ | refine Below.alloc ?_ (by (try simp); try omega) _)
    generalize w2.alloc (.cells #[.int .i64 k, .string t, .int .i64 m, .int .i64 0, .slice A2 r2.length cap2] 29) = W0 at hx hy hb2W ⊢
    have hRx : ∀ W : World, Below W0.heap.size W0 W → Rd W (· < W0.heap.size) (.mk k t m l r) (.slice A1 r.length cap1) := fun W hW =>
      Rd.below (Rd.keep (P' := (· < W0.heap.size)) (fun p hp => (hb2W.cell (Nat.lt_of_lt_of_le hp.2 hb12.size)).trans (hb12.cell hp.2)) (fun b hb => by have := hb.2; have := hb2W.size; omega) hR) hW fun _ h => h
    have hRe : ∀ W : World, Below W0.heap.size W0 W → Rd W (· < W0.heap.size) (.mk k t m 0 r2) (.slice A2 r2.length cap2) := fun W hW =>
      Rd.below (Rd.keep (P' := (· < W0.heap.size)) (fun _ _ => rfl) (fun b hb => by have := hb2W.size; omega) (Ok.rd_at (x := .mk k t m 0 r2) hk2 hb2W)) hW fun _ h => h
    have hI : ∀ W : World, Below W0.heap.size W0 W → Calls Tryd.prog 16 #[.agg #[.int .i64 k, .string t, .int .i64 m, .int .i64 0, .slice A2 r2.length cap2]] W fun e w' => ∃ A cap F, e = .returned (.agg #[.int .i64 k, .string t, .int .i64 m, .int .i64 0, .slice A r2.length cap]) ∧ Ok w' W.heap.size r2 (.slice A r2.length cap) F ∧ F.Nodup ∧ Below W.heap.size W w' := fun W hW => by
      have h := implErase (.mk k t m 0 r2) _ (· < W0.heap.size) W (hRe W hW) (fun _ h => Nat.lt_of_lt_of_le h hW.size) (by omega)
      have e1 : er (.mk k t m 0 r2) = .mk k t m 0 r2 := by show X.mk k t m 0 (erL r2) = _; rw [hee]
      have e2 : erL (X.mk k t m 0 r2).r = r2 := hee
      rw [e1, e2] at h
      exact h
    have hEq : ∀ (W W3 : World) (A3 : Option Addr) (cap3 B : Nat) (F : List Nat), Below W0.heap.size W0 W → Ok W3 B r2 (.slice A3 r2.length cap3) F → Below W3.heap.size W3 W → Calls Tryd.prog 17 #[.agg #[.int .i64 k, .string t, .int .i64 m, .int .i64 0, .slice A3 r2.length cap3], .agg #[.int .i64 k, .string t, .int .i64 m, .int .i64 0, .slice A2 r2.length cap2]] W fun e w' => e = .returned (.bool true) ∧ Below W.heap.size W w' := fun W W3 A3 cap3 B F hW h3 hb3 =>
      (implEqual (.mk k t m 0 r2) (.mk k t m 0 r2) (.slice A3 r2.length cap3) (.slice A2 r2.length cap2) (· < W.heap.size) W (Ok.rd_in (x := .mk k t m 0 r2) h3 hb3) (Rd.keep (fun _ _ => rfl) (fun b hb => Nat.lt_of_lt_of_le hb hW.size) (hRe W hW)) (fun _ h => h) hwe).mono fun e w' h => by rw [eqB_self] at h; exact h
    have hCe := fun W (hW : Below W0.heap.size W0 W) => implCount (.mk k t m 0 r2) _ (· < W0.heap.size) W (hRe W hW) (fun _ h => Nat.lt_of_lt_of_le h hW.size) (by omega)
    have hCx := fun W (hW : Below W0.heap.size W0 W) => implCount (.mk k t m l r) _ (· < W0.heap.size) W (hRx W hW) (fun _ h => Nat.lt_of_lt_of_le h hW.size) (by omega)
    have hDe := fun W (hW : Below W0.heap.size W0 W) => implDepth (.mk k t m 0 r2) _ (· < W0.heap.size) W (hRe W hW) (fun _ h => Nat.lt_of_lt_of_le h hW.size) (by omega)
    have hDx := fun W (hW : Below W0.heap.size W0 W) => implDepth (.mk k t m l r) _ (· < W0.heap.size) W (hRx W hW) (fun _ h => Nat.lt_of_lt_of_le h hW.size) (by omega)
    have hSx := fun W (hW : Below W0.heap.size W0 W) => specIsValid (.mk k t m l r) _ (· < W0.heap.size) W (hRx W hW) (fun _ h => Nat.lt_of_lt_of_le h hW.size) hw hs
    have hbw0 : Below w.heap.size w W0 := (hzr.trans (hb12.mono hzr.size)).trans (hb2W.mono (by have := hzr.size; omega))
    have hIe := fun W (hW : Below W0.heap.size W0 W) => implIsValid (.mk k t m 0 r2) _ (· < W0.heap.size) W (hRe W hW) (fun _ h => Nat.lt_of_lt_of_le h hW.size) (tab_kept hTab (hbw0.trans (hW.mono hbw0.size))) hwe hse
    rw [hcc] at hCe
    rw [hdd] at hDe
    generalize cnt (.mk k t m l r) = c at hCe hCx
    generalize dep (.mk k t m l r) = d at hDe hDx
    generalize vldE wdB (.mk k t m l r) = v at hSx hve
    generalize vldE wdB (.mk k t m 0 r2) = v' at hIe hve
    replace hCe : ∀ W : World, Below W0.heap.size W0 W → Calls Tryd.prog 18 #[.agg #[.int .i64 k, .string t, .int .i64 m, .int .i64 0, .slice A2 r2.length cap2]] W fun e w' => e = .returned (.int .i64 (c : Int)) ∧ Below W.heap.size W w' := hCe
    replace hCx : ∀ W : World, Below W0.heap.size W0 W → Calls Tryd.prog 18 #[.agg #[.int .i64 k, .string t, .int .i64 m, .int .i64 l, .slice A1 r.length cap1]] W fun e w' => e = .returned (.int .i64 (c : Int)) ∧ Below W.heap.size W w' := hCx
    replace hDe : ∀ W : World, Below W0.heap.size W0 W → Calls Tryd.prog 19 #[.agg #[.int .i64 k, .string t, .int .i64 m, .int .i64 0, .slice A2 r2.length cap2]] W fun e w' => e = .returned (.int .i64 (d : Int)) ∧ Below W.heap.size W w' := hDe
    replace hDx : ∀ W : World, Below W0.heap.size W0 W → Calls Tryd.prog 19 #[.agg #[.int .i64 k, .string t, .int .i64 m, .int .i64 l, .slice A1 r.length cap1]] W fun e w' => e = .returned (.int .i64 (d : Int)) ∧ Below W.heap.size W w' := hDx
    replace hSx : ∀ W : World, Below W0.heap.size W0 W → Calls Tryd.prog 10 #[.agg #[.int .i64 k, .string t, .int .i64 m, .int .i64 l, .slice A1 r.length cap1]] W fun e w' => e = .returned (.bool v) ∧ Below W.heap.size W w' := hSx
    replace hIe : ∀ W : World, Below W0.heap.size W0 W → Calls Tryd.prog 12 #[.agg #[.int .i64 k, .string t, .int .i64 m, .int .i64 0, .slice A2 r2.length cap2]] W fun e w' => e = .returned (.bool v') ∧ Below W.heap.size W w' := hIe
    have hbb : Below W0.heap.size W0 W0 := Below.refl _ _
    have hzz := hbb.size
    clear hI0 hk2 hb2 hb12 hz12 hb2W hRx hRe hee hwe hse hcc hdd hcw hw hs hR hb1 hzr hTab hn
    have HI := Lib.hid hI
    have HEq := Lib.hid hEq
    have HCe := Lib.hid hCe
    have HCx := Lib.hid hCx
    have HDe := Lib.hid hDe
    have HDx := Lib.hid hDx
    have HSx := Lib.hid hSx
    have HIe := Lib.hid hIe
    clear hI hEq hCe hCx hDe hDx hSx hIe
    have hx' := Lib.hid hx
    obtain ⟨x0, x1, x2, x3, x4⟩ := id hx
    have hy' := Lib.hid hy
    obtain ⟨y0, y1, y2, y3, y4⟩ := id hy
    clear hx hy
    cases v with
    | true =>
      obtain rfl : v' = true := hve rfl
      clear hve
      go_region_held3 (fun w' => w'.cell? ⟨w1.heap.size, 0, none⟩ = some (.int .i64 k) ∧ w'.cell? ⟨w1.heap.size, 1, none⟩ = some (.string t) ∧ w'.cell? ⟨w1.heap.size, 2, none⟩ = some (.int .i64 m) ∧ w'.cell? ⟨w1.heap.size, 3, none⟩ = some (.int .i64 l) ∧ w'.cell? ⟨w1.heap.size, 4, none⟩ = some (.slice A1 r.length cap1) ∧ w'.cell? ⟨w2.heap.size, 0, none⟩ = some (.int .i64 k) ∧ w'.cell? ⟨w2.heap.size, 1, none⟩ = some (.string t) ∧ w'.cell? ⟨w2.heap.size, 2, none⟩ = some (.int .i64 m) ∧ w'.cell? ⟨w2.heap.size, 3, none⟩ = some (.int .i64 0) ∧ w'.cell? ⟨w2.heap.size, 4, none⟩ = some (.slice A2 r2.length cap2)) ((refine keep10 hx'.out hy'.out ?_; repeat (first | exact hbb | refine Below.drew ?_ | refine Below.setCell ?_ (by (try simp); try omega) _ | refine Below.alloc ?_ (by (try simp); try omega) _)))
      (first
        | (go_at_call 16; refine (HI.out _ (by repeat (first | exact hbb | refine Below.drew ?_ | refine Below.setCell ?_ (by (try simp); try omega) _ | refine Below.alloc ?_ (by (try simp); try omega) _))).mono ?_; rintro e w3 ⟨A3, cap3, F3, rfl, hk3, -, hb3⟩; have hbb := grow (w := W0) (by repeat (first | exact hbb | refine Below.drew ?_ | refine Below.setCell ?_ (by (try simp); try omega) _ | refine Below.alloc ?_ (by (try simp); try omega) _)) hb3; have hzz := hbb.size)
        | (go_at_call 17; refine (HEq.out _ w3 _ _ _ _ (by repeat (first | exact hbb | refine Below.drew ?_ | refine Below.setCell ?_ (by (try simp); try omega) _ | refine Below.alloc ?_ (by (try simp); try omega) _)) hk3 (by repeat (first | exact Below.refl _ _ | refine Below.drew ?_ | refine Below.setCell ?_ (by (try simp); try omega) _ | refine Below.alloc ?_ (by (try simp); try omega) _))).mono ?_; rintro e w4 ⟨rfl, hb4⟩; have hbb := grow (w := W0) (by repeat (first | exact hbb | refine Below.drew ?_ | refine Below.setCell ?_ (by (try simp); try omega) _ | refine Below.alloc ?_ (by (try simp); try omega) _)) hb4; have hzz := hbb.size)
        | (go_at_call 18; have tok := hb5; refine (HCx.out _ (by repeat (first | exact hbb | refine Below.drew ?_ | refine Below.setCell ?_ (by (try simp); try omega) _ | refine Below.alloc ?_ (by (try simp); try omega) _))).mono ?_; rintro e w6 ⟨rfl, hb6⟩; have hbb := grow (w := W0) (by repeat (first | exact hbb | refine Below.drew ?_ | refine Below.setCell ?_ (by (try simp); try omega) _ | refine Below.alloc ?_ (by (try simp); try omega) _)) hb6; have hzz := hbb.size)
        | (go_at_call 18; refine (HCe.out _ (by repeat (first | exact hbb | refine Below.drew ?_ | refine Below.setCell ?_ (by (try simp); try omega) _ | refine Below.alloc ?_ (by (try simp); try omega) _))).mono ?_; rintro e w5 ⟨rfl, hb5⟩; have hbb := grow (w := W0) (by repeat (first | exact hbb | refine Below.drew ?_ | refine Below.setCell ?_ (by (try simp); try omega) _ | refine Below.alloc ?_ (by (try simp); try omega) _)) hb5; have hzz := hbb.size)
        | (go_at_call 19; have tok := hb7; refine (HDx.out _ (by repeat (first | exact hbb | refine Below.drew ?_ | refine Below.setCell ?_ (by (try simp); try omega) _ | refine Below.alloc ?_ (by (try simp); try omega) _))).mono ?_; rintro e w8 ⟨rfl, hb8⟩; have hbb := grow (w := W0) (by repeat (first | exact hbb | refine Below.drew ?_ | refine Below.setCell ?_ (by (try simp); try omega) _ | refine Below.alloc ?_ (by (try simp); try omega) _)) hb8; have hzz := hbb.size)
        | (go_at_call 19; refine (HDe.out _ (by repeat (first | exact hbb | refine Below.drew ?_ | refine Below.setCell ?_ (by (try simp); try omega) _ | refine Below.alloc ?_ (by (try simp); try omega) _))).mono ?_; rintro e w7 ⟨rfl, hb7⟩; have hbb := grow (w := W0) (by repeat (first | exact hbb | refine Below.drew ?_ | refine Below.setCell ?_ (by (try simp); try omega) _ | refine Below.alloc ?_ (by (try simp); try omega) _)) hb7; have hzz := hbb.size)
        | (go_at_call 10; refine (HSx.out _ (by repeat (first | exact hbb | refine Below.drew ?_ | refine Below.setCell ?_ (by (try simp); try omega) _ | refine Below.alloc ?_ (by (try simp); try omega) _))).mono ?_; rintro e w9 ⟨rfl, hb9⟩; have hbb := grow (w := W0) (by repeat (first | exact hbb | refine Below.drew ?_ | refine Below.setCell ?_ (by (try simp); try omega) _ | refine Below.alloc ?_ (by (try simp); try omega) _)) hb9; have hzz := hbb.size)
        | (go_at_call 12; refine (HIe.out _ (by repeat (first | exact hbb | refine Below.drew ?_ | refine Below.setCell ?_ (by (try simp); try omega) _ | refine Below.alloc ?_ (by (try simp); try omega) _))).mono ?_; rintro e wa ⟨rfl, hba⟩; have hbb := grow (w := W0) (by repeat (first | exact hbb | refine Below.drew ?_ | refine Below.setCell ?_ (by (try simp); try omega) _ | refine Below.alloc ?_ (by (try simp); try omega) _)) hba; have hzz := hbb.size))
      all_goals
        go_wp2_with fail
        go_ret
        exact ⟨rfl, hbw0.trans (Below.mono (by repeat (first | exact hbb | refine Below.drew ?_ | refine Below.setCell ?_ (by (try simp); try omega) _ | refine Below.alloc ?_ (by (try simp); try omega) _)) hbw0.size)⟩
    | false =>
      clear hve HIe
      have hld : Op.load 29 (.tmp 4) = ldE := rfl
      rw (occs := .pos [5]) [hld]
      go_region_held3 (fun w' => w'.cell? ⟨w1.heap.size, 0, none⟩ = some (.int .i64 k) ∧ w'.cell? ⟨w1.heap.size, 1, none⟩ = some (.string t) ∧ w'.cell? ⟨w1.heap.size, 2, none⟩ = some (.int .i64 m) ∧ w'.cell? ⟨w1.heap.size, 3, none⟩ = some (.int .i64 l) ∧ w'.cell? ⟨w1.heap.size, 4, none⟩ = some (.slice A1 r.length cap1) ∧ w'.cell? ⟨w2.heap.size, 0, none⟩ = some (.int .i64 k) ∧ w'.cell? ⟨w2.heap.size, 1, none⟩ = some (.string t) ∧ w'.cell? ⟨w2.heap.size, 2, none⟩ = some (.int .i64 m) ∧ w'.cell? ⟨w2.heap.size, 3, none⟩ = some (.int .i64 0) ∧ w'.cell? ⟨w2.heap.size, 4, none⟩ = some (.slice A2 r2.length cap2)) ((refine keep10 hx'.out hy'.out ?_; repeat (first | exact hbb | refine Below.drew ?_ | refine Below.setCell ?_ (by (try simp); try omega) _ | refine Below.alloc ?_ (by (try simp); try omega) _)))
      (first
        | (go_at_call 16; refine (HI.out _ (by repeat (first | exact hbb | refine Below.drew ?_ | refine Below.setCell ?_ (by (try simp); try omega) _ | refine Below.alloc ?_ (by (try simp); try omega) _))).mono ?_; rintro e w3 ⟨A3, cap3, F3, rfl, hk3, -, hb3⟩; have hbb := grow (w := W0) (by repeat (first | exact hbb | refine Below.drew ?_ | refine Below.setCell ?_ (by (try simp); try omega) _ | refine Below.alloc ?_ (by (try simp); try omega) _)) hb3; have hzz := hbb.size)
        | (go_at_call 17; refine (HEq.out _ w3 _ _ _ _ (by repeat (first | exact hbb | refine Below.drew ?_ | refine Below.setCell ?_ (by (try simp); try omega) _ | refine Below.alloc ?_ (by (try simp); try omega) _)) hk3 (by repeat (first | exact Below.refl _ _ | refine Below.drew ?_ | refine Below.setCell ?_ (by (try simp); try omega) _ | refine Below.alloc ?_ (by (try simp); try omega) _))).mono ?_; rintro e w4 ⟨rfl, hb4⟩; have hbb := grow (w := W0) (by repeat (first | exact hbb | refine Below.drew ?_ | refine Below.setCell ?_ (by (try simp); try omega) _ | refine Below.alloc ?_ (by (try simp); try omega) _)) hb4; have hzz := hbb.size)
        | (go_at_call 18; have tok := hb5; refine (HCx.out _ (by repeat (first | exact hbb | refine Below.drew ?_ | refine Below.setCell ?_ (by (try simp); try omega) _ | refine Below.alloc ?_ (by (try simp); try omega) _))).mono ?_; rintro e w6 ⟨rfl, hb6⟩; have hbb := grow (w := W0) (by repeat (first | exact hbb | refine Below.drew ?_ | refine Below.setCell ?_ (by (try simp); try omega) _ | refine Below.alloc ?_ (by (try simp); try omega) _)) hb6; have hzz := hbb.size)
        | (go_at_call 18; refine (HCe.out _ (by repeat (first | exact hbb | refine Below.drew ?_ | refine Below.setCell ?_ (by (try simp); try omega) _ | refine Below.alloc ?_ (by (try simp); try omega) _))).mono ?_; rintro e w5 ⟨rfl, hb5⟩; have hbb := grow (w := W0) (by repeat (first | exact hbb | refine Below.drew ?_ | refine Below.setCell ?_ (by (try simp); try omega) _ | refine Below.alloc ?_ (by (try simp); try omega) _)) hb5; have hzz := hbb.size)
        | (go_at_call 19; have tok := hb7; refine (HDx.out _ (by repeat (first | exact hbb | refine Below.drew ?_ | refine Below.setCell ?_ (by (try simp); try omega) _ | refine Below.alloc ?_ (by (try simp); try omega) _))).mono ?_; rintro e w8 ⟨rfl, hb8⟩; have hbb := grow (w := W0) (by repeat (first | exact hbb | refine Below.drew ?_ | refine Below.setCell ?_ (by (try simp); try omega) _ | refine Below.alloc ?_ (by (try simp); try omega) _)) hb8; have hzz := hbb.size)
        | (go_at_call 19; refine (HDe.out _ (by repeat (first | exact hbb | refine Below.drew ?_ | refine Below.setCell ?_ (by (try simp); try omega) _ | refine Below.alloc ?_ (by (try simp); try omega) _))).mono ?_; rintro e w7 ⟨rfl, hb7⟩; have hbb := grow (w := W0) (by repeat (first | exact hbb | refine Below.drew ?_ | refine Below.setCell ?_ (by (try simp); try omega) _ | refine Below.alloc ?_ (by (try simp); try omega) _)) hb7; have hzz := hbb.size)
        | (go_at_call 10; refine (HSx.out _ (by repeat (first | exact hbb | refine Below.drew ?_ | refine Below.setCell ?_ (by (try simp); try omega) _ | refine Below.alloc ?_ (by (try simp); try omega) _))).mono ?_; rintro e w9 ⟨rfl, hb9⟩; have hbb := grow (w := W0) (by repeat (first | exact hbb | refine Below.drew ?_ | refine Below.setCell ?_ (by (try simp); try omega) _ | refine Below.alloc ?_ (by (try simp); try omega) _)) hb9; have hzz := hbb.size))
      all_goals
        go_wp2_with fail
        go_ret
        exact ⟨rfl, hbw0.trans (Below.mono (by repeat (first | exact hbb | refine Below.drew ?_ | refine Below.setCell ?_ (by (try simp); try omega) _ | refine Below.alloc ?_ (by (try simp); try omega) _)) hbw0.size)⟩
  · clear hc
    go_enter Tryd.func4, Tryd.ntmps4
    go_wp2_with go_in
    go_ret
    exact ⟨rfl, Below.refl _ _⟩

end Go.Proofs.YtanmkeoieckebaaDoor.lErased
