/- Proved here: the walk of the law FnExactSplitByte: the call returns true and leaves all older memory as it was. Condition: the arguments are of their types. -/
import Derived.Test.YtanmkeoieckebaaSp
import Derived.Test.YtanmkeoieckebaaMh
import Derived.Test.YtanmkeoieckebaaGw
namespace Go.Proofs.Ytanmkeoieckebaa.lSplitByte
open Go.RowKit

theorem grow {w W w' : World} (h : Below w.heap.size w W) (h1 : Below W.heap.size W w') : Below w.heap.size w w' := h.trans (h1.mono h.size)
set_option maxRecDepth 20000 in
set_option maxHeartbeats 4000000 in
theorem walk (s : ByteArray) (hs : s.size ≤ maxLen) (z : Int) (hz : (Lit.int .u8 z).wf = true) (w : World) : Calls Try.prog 4 #[.string s, .int .u8 z] w fun e w' => e = .returned (.bool true) ∧ Below w.heap.size w w' := by
  unfold maxLen at hs
  obtain ⟨b, rfl⟩ : ∃ b : UInt8, z = (b.toNat : Int) := ⟨UInt8.ofNat z.toNat, by have := u8_bd hz; simp; omega⟩
  clear hz
  have hbb0 := byte_bd b
  by_cases hbig : s.size ≤ 1048576
  · have hlen := splitT_len b s
    have hS : ∀ W : World, Calls Try.prog 12 #[.string s, .int .u8 (b.toNat : Int)] W fun e w' => ∃ A cap, e = .returned (.slice A (splitT b s).length cap) ∧ SBuf w' W.heap.size (.slice A (splitT b s).length cap) (splitT b s) ∧ Below W.heap.size W w' := fun W =>
      (specSplit s hbig b W).mono fun e w' ⟨v, he, hk, hb⟩ => by obtain ⟨A, cap, rfl⟩ := hk.form; exact ⟨A, cap, he, hk, hb⟩
    have hI : ∀ W : World, Calls Try.prog 13 #[.string s, .int .u8 (b.toNat : Int)] W fun e w' => ∃ A cap, e = .returned (.slice A (splitT b s).length cap) ∧ SBuf w' W.heap.size (.slice A (splitT b s).length cap) (splitT b s) ∧ Below W.heap.size W w' := fun W =>
      (implSplit s hbig b W).mono fun e w' ⟨v, he, hk, hb⟩ => by obtain ⟨A, cap, rfl⟩ := hk.form; exact ⟨A, cap, he, hk, hb⟩
    generalize splitT b s = l at hS hI hlen
    have hE := fun (W W1 W2 : World) (B B' : Nat) (A1 : Option Addr) (cap1 : Nat) (A2 : Option Addr) (cap2 : Nat) (h : SBuf W1 B (.slice A1 l.length cap1) l) (hb : Below W1.heap.size W1 W) (h' : SBuf W2 B' (.slice A2 l.length cap2) l) (hb' : Below W2.heap.size W2 W) => eqS l l (.slice A1 l.length cap1) (.slice A2 l.length cap2) (· < W.heap.size) W (h.sr_in hb) (h'.sr_in hb') (by unfold maxLen; omega)
    simp only [decide_true] at hE
    obtain ⟨m, hm⟩ : ∃ m, m = 1 + l.length := ⟨_, rfl⟩
    have hM := fun (W : World) (B : Nat) (A : Option Addr) (cap : Nat) (h : SBuf W B (.slice A l.length cap) l) => markS l (.slice A l.length cap) B 1 W h (by omega) (by omega)
    have hH := fun (W W1 : World) (B : Nat) (A : Option Addr) (cap : Nat) (h : SBuf W1 B (.slice A l.length cap) (marksL 1 l.length)) (hb : Below W1.heap.size W1 W) => heldS l.length 1 (.slice A l.length cap) (· < W.heap.size) W (h.sr_in hb) (fun _ h => h) (by omega) (by omega)
    rw [← hm] at hM hH
    have b1 : decide ((m : Int) < 0) = false := by simp
    clear hm hlen
    have hbb : Below w.heap.size w w := Below.refl _ _
    have hzz := hbb.size
    go_enter Try.func4, Try.ntmps4
    go_wp2_with (first
      | (go_at_call 12; refine (hS _).mono ?_; rintro e w1 ⟨A1, cap1, rfl, hk1, hb1⟩; have hk0 := hk1; have hbb := grow (w := w) (by repeat (first | exact hbb | refine Below.drew ?_ | refine Below.setCell ?_ (by (try simp); try omega) _ | refine Below.alloc ?_ (by (try simp); try omega) _)) hb1; have hzz := hbb.size)
      | (go_at_call 16; have tok := hk6; refine (hH _ w6 _ _ _ hk4 (below_drewN (Below.refl _ _) _)).mono ?_; rintro e w9 ⟨rfl, hb9⟩; have hbb := grow (w := w) (below_drewN hbb _) hb9)
      | (go_at_call 14; have tok := hk6; refine (hE _ w6 w6 _ _ _ _ _ _ hk6 (by repeat (first | exact Below.refl _ _ | refine Below.drew ?_ | refine Below.setCell ?_ (by (try simp); try omega) _ | refine Below.alloc ?_ (by (try simp); try omega) _)) hk1 (by repeat (first | exact Below.refl _ _ | refine Below.drew ?_ | refine Below.setCell ?_ (by (try simp); try omega) _ | refine Below.alloc ?_ (by (try simp); try omega) _))).mono ?_; rintro e w' ⟨rfl, dn, rfl⟩)
      | (go_at_call 13; have tok := hk4; refine (hI _).mono ?_; rintro e w6 ⟨A6, cap6, rfl, hk6, hb6⟩; have hbb := grow (w := w) (by repeat (first | exact hbb | refine Below.drew ?_ | refine Below.setCell ?_ (by (try simp); try omega) _ | refine Below.alloc ?_ (by (try simp); try omega) _)) hb6; have hzz := hbb.size; have hk4 := hk4.kept hb6; have hk1 := hk1.kept hb6)
      | (go_at_call 16; refine (hH _ w4 _ _ _ hk4 (by repeat (first | exact Below.refl _ _ | refine Below.drew ?_ | refine Below.alloc ?_ (by (try simp); try omega) _ | refine Below.trans ?_ (hb3.mono (by (try simp); try omega)) | refine Below.trans ?_ (hb4.mono (by (try simp); try omega)) | refine Below.trans ?_ (hb5.mono (by (try simp); try omega))))).mono ?_; rintro e w5 ⟨rfl, hb5⟩; have hbb := grow (w := w) (by repeat (first | exact hbb | refine Below.drew ?_ | refine Below.setCell ?_ (by (try simp); try omega) _ | refine Below.alloc ?_ (by (try simp); try omega) _)) hb5; have hzz := hbb.size; have hk4 := hk4.kept hb5; have hk1 := hk1.kept hb5)
      | (go_at_call 15; refine (hM _ _ _ _ (SBuf.drewN hk2 _)).mono ?_; rintro e w4 ⟨rfl, hk4, hg4⟩; have hv2 := SBuf.lt hk2; have hb1s := hbb; have hk1 := SBuf.grown (SBuf.drewN hk1 _) hg4 (fun k hk e => by have h1 := SBuf.lt hk0 k hk; have h2 := hv2 k e.symm; omega); have hbb := below_grown (below_drewN hbb _) (by simpa using hzz) hg4 (fun k e => by have h2 := hv2 k e; omega); have hzz := hbb.size)
      | (go_at_call 14; refine (hE _ w2 w2 _ _ _ _ _ _ hk2 (by repeat (first | exact Below.refl _ _ | refine Below.drew ?_ | refine Below.setCell ?_ (by (try simp); try omega) _ | refine Below.alloc ?_ (by (try simp); try omega) _)) hk1 (by repeat (first | exact Below.refl _ _ | refine Below.drew ?_ | refine Below.setCell ?_ (by (try simp); try omega) _ | refine Below.alloc ?_ (by (try simp); try omega) _))).mono ?_; rintro e w3 ⟨rfl, dn, rfl⟩)
      | (go_at_call 13; refine (hI _).mono ?_; rintro e w2 ⟨A2, cap2, rfl, hk2, hb2⟩; have hbb := grow (w := w) (by repeat (first | exact hbb | refine Below.drew ?_ | refine Below.setCell ?_ (by (try simp); try omega) _ | refine Below.alloc ?_ (by (try simp); try omega) _)) hb2; have hzz := hbb.size; have hk1 := hk1.kept hb2))
    go_ret
    exact ⟨rfl, hbb⟩
  · go_enter Try.func4, Try.ntmps4
    go_wp2
    go_ret
    exact ⟨rfl, Below.refl _ _⟩

end Go.Proofs.Ytanmkeoieckebaa.lSplitByte
