/- Proved here: the walk of the law FnExactJoin: the call returns true and leaves all older memory as it was. Condition: the arguments are of their types. -/
import Derived.Test.YtnmieocbpdoicaaJn
namespace Go.Proofs.Ytnmieocbpdoicaa.lJoin
open Go.RowKit

theorem grow {w W w' : World} (h : Below w.heap.size w W) (h1 : Below W.heap.size W w') : Below w.heap.size w w' := h.trans (h1.mono h.size)
set_option maxHeartbeats 2000000 in
theorem walk (w : World) (s : Value) (l : List ByteArray) (hr : Sr w (· < w.heap.size) s l) (hl : l.length ≤ maxLen) (hw : ∀ i (h : i < l.length), l[i].size ≤ maxLen) (t : ByteArray) (ht : t.size ≤ maxLen) : Calls Try.prog 11 #[s, .string t] w fun e w' => e = .returned (.bool true) ∧ Below w.heap.size w w' := by
  unfold maxLen at ht
  by_cases hbig : t.size ≤ 1048576
  · have hZ := szS l s (· < w.heap.size) w 1048576 hr hl hw (by omega)
    obtain ⟨A, cap, rfl⟩ := hr.form
    by_cases hs : l.length + sizS l ≤ 1048576
    · rw [X.leftOf_yes hs] at hZ
      obtain ⟨m, hm⟩ : ∃ m, m = 1048576 - (l.length + sizS l) := ⟨_, rfl⟩
      rw [← hm] at hZ
      have b0 : decide ((m : Int) < 0) = false := by simp
      have hwl : ∀ i (h : i < l.length), l[i].size ≤ 1048576 := fun i h => by have := siz_at l h; omega
      have hT := fun (W : World) (hW : Below w.heap.size w W) => toS l (.slice A l.length cap) (· < w.heap.size) W (hr.below hW fun _ h => h) (fun _ h => Nat.lt_of_lt_of_le h hW.size) (by omega)
      have hS := fun (W W1 : World) (B : Nat) (A1 : Option Addr) (cap1 : Nat) (h : SBuf W1 B (.slice A1 l.length cap1) l) (hb : Below W1.heap.size W1 W) => specJoin l t (.slice A1 l.length cap1) (· < W.heap.size) W (h.sr_in hb) (fun _ h => h) (by omega) hbig hwl
      have hI := fun (W W1 : World) (B : Nat) (A1 : Option Addr) (cap1 : Nat) (h : SBuf W1 B (.slice A1 l.length cap1) l) (hb : Below W1.heap.size W1 W) => implJoin l t (.slice A1 l.length cap1) (· < W.heap.size) W (h.sr_in hb) (fun _ h => h) (by omega) hbig hwl
      have hE := fun (W W1 W2 : World) (B B' : Nat) (A1 : Option Addr) (cap1 : Nat) (A2 : Option Addr) (cap2 : Nat) (h : SBuf W1 B (.slice A1 l.length cap1) l) (hb : Below W1.heap.size W1 W) (h' : SBuf W2 B' (.slice A2 l.length cap2) l) (hb' : Below W2.heap.size W2 W) => eqS l l (.slice A1 l.length cap1) (.slice A2 l.length cap2) (· < W.heap.size) W (h.sr_in hb) (h'.sr_in hb') hl
      simp only [decide_true] at hE
      obtain ⟨x, hx⟩ : ∃ x, x = joinR t l := ⟨_, rfl⟩
      rw [← hx] at hS hI
      have hbb : Below w.heap.size w w := Below.refl _ _
      have hzz := hbb.size
      clear hm hs hwl hw hx
      go_enter Try.func11, Try.ntmps11
      go_upto_region 8 with (first
        | (go_at_call 42; refine hZ.mono ?_; rintro e w' ⟨rfl, rfl⟩)
        | (go_at_call 44; refine (hT _ (by repeat (first | exact hbb | refine Below.drew ?_ | refine Below.setCell ?_ (by (try simp); try omega) _ | refine Below.alloc ?_ (by (try simp); try omega) _))).mono ?_; rintro e w1 ⟨A1, cap1, rfl, hk1, hb1⟩; have hbb := grow (w := w) (by repeat (first | exact hbb | refine Below.drew ?_ | refine Below.setCell ?_ (by (try simp); try omega) _ | refine Below.alloc ?_ (by (try simp); try omega) _)) hb1; have hzz := hbb.size)
        | (go_at_call 43; refine (hS _ w1 _ _ _ hk1 (by repeat (first | exact Below.refl _ _ | refine Below.drew ?_ | refine Below.setCell ?_ (by (try simp); try omega) _ | refine Below.alloc ?_ (by (try simp); try omega) _))).mono ?_; rintro e w2 ⟨rfl, hb2⟩; have hbb := grow (w := w) (by repeat (first | exact hbb | refine Below.drew ?_ | refine Below.setCell ?_ (by (try simp); try omega) _ | refine Below.alloc ?_ (by (try simp); try omega) _)) hb2; have hzz := hbb.size))
      go_upto_region 12 with (first
        | (go_at_call 44; refine (hT _ (by repeat (first | exact hbb | refine Below.drew ?_ | refine Below.setCell ?_ (by (try simp); try omega) _ | refine Below.alloc ?_ (by (try simp); try omega) _))).mono ?_; rintro e w3 ⟨A3, cap3, rfl, hk3, hb3⟩; have hbb := grow (w := w) (by repeat (first | exact hbb | refine Below.drew ?_ | refine Below.setCell ?_ (by (try simp); try omega) _ | refine Below.alloc ?_ (by (try simp); try omega) _)) hb3; have hzz := hbb.size)
        | (go_at_call 45; refine (hI _ w3 _ _ _ hk3 (by repeat (first | exact Below.refl _ _ | refine Below.drew ?_ | refine Below.setCell ?_ (by (try simp); try omega) _ | refine Below.alloc ?_ (by (try simp); try omega) _))).mono ?_; rintro e w4 ⟨rfl, hb4⟩; have hbb := grow (w := w) (by repeat (first | exact hbb | refine Below.drew ?_ | refine Below.setCell ?_ (by (try simp); try omega) _ | refine Below.alloc ?_ (by (try simp); try omega) _)) hb4; have hzz := hbb.size; have hk4 := SBuf.kept hk3 hb4))
      go_wp2_with (first
        | (go_at_call 44; refine (hT _ (by repeat (first | exact hbb | refine Below.drew ?_ | refine Below.setCell ?_ (by (try simp); try omega) _ | refine Below.alloc ?_ (by (try simp); try omega) _))).mono ?_; rintro e w5 ⟨A5, cap5, rfl, hk5, hb5⟩; have hbb := grow (w := w) (by repeat (first | exact hbb | refine Below.drew ?_ | refine Below.setCell ?_ (by (try simp); try omega) _ | refine Below.alloc ?_ (by (try simp); try omega) _)) hb5; have hzz := hbb.size; have hk6 := SBuf.kept hk4 hb5)
        | (go_at_call 46; refine (hE _ w5 w5 _ _ _ _ _ _ hk6 (by repeat (first | exact Below.refl _ _ | refine Below.drew ?_ | refine Below.setCell ?_ (by (try simp); try omega) _ | refine Below.alloc ?_ (by (try simp); try omega) _)) hk5 (by repeat (first | exact Below.refl _ _ | refine Below.drew ?_ | refine Below.setCell ?_ (by (try simp); try omega) _ | refine Below.alloc ?_ (by (try simp); try omega) _))).mono ?_; rintro e w6 ⟨rfl, dn, rfl⟩))
      go_ret
      exact ⟨rfl, below_drewN hbb _⟩
    · rw [X.leftOf_no hs] at hZ
      go_enter Try.func11, Try.ntmps11
      go_wp2_with (go_at_call 42; refine hZ.mono ?_; rintro e w' ⟨rfl, rfl⟩)
      go_ret
      exact ⟨rfl, Below.refl _ _⟩
  · obtain ⟨A, cap, rfl⟩ := hr.form
    go_enter Try.func11, Try.ntmps11
    go_wp2_with fail
    go_ret
    exact ⟨rfl, Below.refl _ _⟩

end Go.Proofs.Ytnmieocbpdoicaa.lJoin
