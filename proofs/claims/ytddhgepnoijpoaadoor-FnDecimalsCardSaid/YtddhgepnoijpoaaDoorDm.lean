/- Proved here: what the reference's draws of a number and of a text to part give. Condition: the code's bytes can be read. -/
import Derived.Test.YtddhgepnoijpoaaDoorDx
namespace Go.Proofs.YtddhgepnoijpoaaDoor
open Go.RowKit

/-- Some number of 64 bits. -/
def NumP (w : World) (e : Ending) (w' : World) : Prop := ∃ n, I64 n ∧ e = .returned (.int .i64 n) ∧ Below w.heap.size w w'
set_option maxHeartbeats 4000000 in
theorem drawFormatInt (A : Option Addr) (n cap : Nat) (w : World) (hc : CodeAt w A n) : Calls Tryd.prog 31 #[.slice A n cap] w (NumP w) := by
  go_enter Tryd.func31, Tryd.ntmps31
  go_wp2_with (first
    | (go_at_call 46; refine (l1New A n cap _ hc).mono ?_; rintro e w1 ⟨g, rfl, hg, hc1, hb1⟩)
    | (go_at_call 45; refine (l1Whole g _ hc1).mono ?_; rintro e w2 ⟨z, hz, rfl, hc2, hg2⟩))
  go_ret
  exact ⟨_, hz, rfl, only_own hb1 hg2 hg⟩
/-- Some text and some byte. -/
def SplP (w : World) (e : Ending) (w' : World) : Prop := ∃ (t : ByteArray) (b : UInt8), t.size ≤ 12 ∧ e = .returned (.tuple #[.string t, .int .u8 (b.toNat : Int)]) ∧ Below w.heap.size w w'
theorem splP_of {w w' : World} {t : ByteArray} {z : Int} (ht : t.size ≤ 12) (hz : 0 ≤ z ∧ z ≤ 255) (hb : Below w.heap.size w w') : SplP w (.returned (.tuple #[.string t, .int .u8 z])) w' := by
  refine ⟨t, UInt8.ofNat z.toNat, ht, ?_, hb⟩
  have : ((UInt8.ofNat z.toNat).toNat : Int) = z := by simp; omega
  rw [this]
def le12 (t : ByteArray) : Bool := decide (t.size ≤ 12)
def by255 (z : Int) : Bool := decide (0 ≤ z ∧ z ≤ 255)
set_option maxHeartbeats 4000000 in
theorem drawSplitByte (A : Option Addr) (n cap : Nat) (w : World) (hc : CodeAt w A n) : Calls Tryd.prog 32 #[.slice A n cap] w (SplP w) := by
  go_enter Tryd.func32, Tryd.ntmps32
  go_upto_region 2 with (go_at_call 46; refine (l1New A n cap _ hc).mono ?_; rintro e w1 ⟨g, rfl, hg, hc1, hb1⟩)
  go_wp2_with (first
    | (go_at_call 47; refine Calls.mono (l1PickLit le12 rfl hc1 (by decide) rfl (by omega) (by omega)) ?_; rintro e w2 ⟨t, ht, rfl, hc2, hg2⟩; have hts : t.size ≤ 12 := (by simpa [le12] using ht); clear ht)
    | (go_at_call 48; refine Calls.mono (l1PickIntLit by255 rfl hc2 (by decide) rfl (by omega) (by omega)) ?_; rintro e w3 ⟨z, hz, rfl, hc3, hg3⟩; have hz0 : 0 ≤ z ∧ z ≤ 255 := (by simpa [by255] using hz); clear hz; obtain ⟨hz1, hz2⟩ := hz0))
  go_ret2
  exact splP_of hts ⟨hz1, hz2⟩ (only_own hb1 (only_trans (only_trans (only_alloc (only_refl _ _) _) hg2) (only_trans (only_alloc (only_refl _ _) _) hg3)) hg)
end Go.Proofs.YtddhgepnoijpoaaDoor
