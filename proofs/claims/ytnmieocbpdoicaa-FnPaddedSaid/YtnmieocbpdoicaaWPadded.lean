/- Proved here: the walk of the law FnPadded: the call returns true and leaves all older memory as it was. Condition: the arguments are of their types. -/
import Derived.Test.YtnmieocbpdoicaaDx
import Derived.Test.YtnmieocbpdoicaaCmp
import Derived.Test.YtnmieocbpdoicaaLt
namespace Go.Proofs.Ytnmieocbpdoicaa.lPadded
open Go.RowKit

theorem grow {w W w' : World} (h : Below w.heap.size w W) (h1 : Below W.heap.size W w') : Below w.heap.size w w' := h.trans (h1.mono h.size)
theorem cmp_self (a : ByteArray) : Lib.compareBytes a.data.toList a.data.toList = 0 := by
  have : ∀ l : List UInt8, Lib.compareBytes l l = 0 := by
    intro l
    induction l with
    | nil => rfl
    | cons x l ih => simp [Lib.compareBytes, ih]
  exact this _
set_option maxRecDepth 20000 in
set_option maxHeartbeats 4000000 in
theorem walk (w : World) (A : Option Addr) (n cap : Nat) (hn : n ≤ maxLen) (hc : n ≤ 1048576 → CodeAt w A n) : Calls Try.prog 10 #[.slice A n cap] w fun e w' => e = .returned (.bool true) ∧ Below w.heap.size w w' := by
  unfold maxLen at hn
  by_cases hbig : n ≤ 1048576
  · have hD := drawLeft A n cap w (hc hbig)
    clear hc
    go_enter Try.func10, Try.ntmps10
    go_upto_region 4 with (first
      | (go_at_call 36; refine hD.mono ?_; rintro e w1 ⟨s, i, b, hs, hi, hb, rfl, hb1⟩)
      | go_in)
    clear hD
    unfold W130 at hs
    unfold I64 at hi
    obtain ⟨c, hc⟩ : ∃ c : UInt8, (b : Int) = (c.toNat : Int) := ⟨UInt8.ofNat b, by simp; omega⟩
    have hbb := hb1
    have hzz := hbb.size
    have hcb := byte_bd c
    have hR := fun W => implReverse s (by omega) W
    have hrs := rev_size s
    by_cases hr : 0 ≤ i ∧ i ≤ 120
    · obtain ⟨m, rfl⟩ : ∃ m : Nat, i = (m : Int) := ⟨i.toNat, by omega⟩
      have hm : m ≤ 120 := by omega
      have hL := fun W => implLeftYes s (by omega) m hm c W
      have hS := fun W => specLeftYes s (by omega) m hm c W
      have hQ := fun W => implRightYes (revT s) (by omega) m hm c W
      have hRR : ∀ W : World, Calls Try.prog 39 #[.string (rightT (revT s) m c)] W fun e w' => e = .returned (.string (leftT s m c)) ∧ Below W.heap.size W w' := fun W => by
        have h1 : (rightT (revT s) m c).size = m := by
          have := leftT_size s m c
          rw [← rev_right, rev_size] at this
          exact this
        have := implReverse (rightT (revT s) m c) (by omega) W
        rw [← rev_right]
        exact this
      have hsz := leftT_size s m c
      have z1 : (((leftT s m c).size : Int) == (m : Int)) = true := by rw [beq_iff_eq, hsz]
      have z2 := cmp_self (leftT s m c)
      have hC := fun W => implCompare (leftT s m c) (leftT s m c) W
      rw [z2] at hC
      obtain ⟨x, hx⟩ : ∃ x, x = leftT s m c := ⟨_, rfl⟩
      obtain ⟨y, hy⟩ : ∃ y, y = rightT (revT s) m c := ⟨_, rfl⟩
      obtain ⟨r, hr'⟩ : ∃ r, r = revT s := ⟨_, rfl⟩
      rw [← hx] at hL hS hRR hC z1
      rw [← hy] at hQ hRR
      rw [← hr'] at hQ
      replace hR : ∀ W : World, Calls Try.prog 39 #[.string s] W fun e w' => e = .returned (.string r) ∧ Below W.heap.size W w' := by rw [hr']; exact hR
      clear hsz z2 hx hy hr' hrs hr hi hs
      rw [hc]
      clear hc hb
      go_upto_region 5 with (go_at_call 37; refine (hL _).mono ?_; rintro e w2 ⟨rfl, hb2⟩; have hbb := grow (w := w) (by repeat (first | exact hbb | refine Below.drew ?_ | refine Below.setCell ?_ (by (try simp); try omega) _ | refine Below.alloc ?_ (by (try simp); try omega) _)) hb2; have hzz := hbb.size)
      go_upto_region 6 with (first
        | (go_at_call 39; refine (hR _).mono ?_; rintro e w3 ⟨rfl, hb3⟩; have hbb := grow (w := w) (by repeat (first | exact hbb | refine Below.drew ?_ | refine Below.setCell ?_ (by (try simp); try omega) _ | refine Below.alloc ?_ (by (try simp); try omega) _)) hb3; have hzz := hbb.size)
        | (go_at_call 38; refine (hQ _).mono ?_; rintro e w4 ⟨rfl, hb4⟩; have hbb := grow (w := w) (by repeat (first | exact hbb | refine Below.drew ?_ | refine Below.setCell ?_ (by (try simp); try omega) _ | refine Below.alloc ?_ (by (try simp); try omega) _)) hb4; have hzz := hbb.size))
      go_upto_region 7 with (go_at_call 40; refine (hS _).mono ?_; rintro e w5 ⟨rfl, hb5⟩; have hbb := grow (w := w) (by repeat (first | exact hbb | refine Below.drew ?_ | refine Below.setCell ?_ (by (try simp); try omega) _ | refine Below.alloc ?_ (by (try simp); try omega) _)) hb5; have hzz := hbb.size)
      go_wp2_with (first
        | (go_at_call 39; refine (hRR _).mono ?_; rintro e w6 ⟨rfl, hb6⟩; have hbb := grow (w := w) (by repeat (first | exact hbb | refine Below.drew ?_ | refine Below.setCell ?_ (by (try simp); try omega) _ | refine Below.alloc ?_ (by (try simp); try omega) _)) hb6; have hzz := hbb.size)
        | (go_at_call 41; refine (hC _).mono ?_; rintro e w' ⟨rfl, rfl⟩))
      go_ret
      exact ⟨rfl, hbb⟩
    · have hno : i < 0 ∨ 120 < i := by omega
      have hL := fun W => implLeftNo s i hno c W
      have hS := fun W => specLeftNo s i hno c W
      have hQ := fun W => implRightNo (revT s) i hno c W
      obtain ⟨r, hr'⟩ : ∃ r, r = revT s := ⟨_, rfl⟩
      rw [← hr'] at hQ
      replace hR : ∀ W : World, Calls Try.prog 39 #[.string s] W fun e w' => e = .returned (.string r) ∧ Below W.heap.size W w' := by rw [hr']; exact hR
      clear hr' hrs hs hno hr
      rw [hc]
      clear hc hb
      go_wp2_with (first
        | (go_at_call 37; refine (hL _).mono ?_; rintro e w2 ⟨rfl, hb2⟩; have hbb := grow (w := w) (by repeat (first | exact hbb | refine Below.drew ?_ | refine Below.setCell ?_ (by (try simp); try omega) _ | refine Below.alloc ?_ (by (try simp); try omega) _)) hb2; have hzz := hbb.size)
        | (go_at_call 39; refine (hR _).mono ?_; rintro e w3 ⟨rfl, hb3⟩; have hbb := grow (w := w) (by repeat (first | exact hbb | refine Below.drew ?_ | refine Below.setCell ?_ (by (try simp); try omega) _ | refine Below.alloc ?_ (by (try simp); try omega) _)) hb3; have hzz := hbb.size)
        | (go_at_call 38; refine (hQ _).mono ?_; rintro e w4 ⟨rfl, hb4⟩; have hbb := grow (w := w) (by repeat (first | exact hbb | refine Below.drew ?_ | refine Below.setCell ?_ (by (try simp); try omega) _ | refine Below.alloc ?_ (by (try simp); try omega) _)) hb4; have hzz := hbb.size)
        | (go_at_call 40; refine (hS _).mono ?_; rintro e w5 ⟨rfl, hb5⟩; have hbb := grow (w := w) (by repeat (first | exact hbb | refine Below.drew ?_ | refine Below.setCell ?_ (by (try simp); try omega) _ | refine Below.alloc ?_ (by (try simp); try omega) _)) hb5; have hzz := hbb.size))
      go_ret
      exact ⟨rfl, hbb⟩
  · clear hc
    go_enter Try.func10, Try.ntmps10
    go_wp2_with go_in
    go_ret
    exact ⟨rfl, Below.refl _ _⟩

end Go.Proofs.Ytnmieocbpdoicaa.lPadded
