/- Proved here: what the reference's draws of a text and of a set for literals give; two sets compared. Condition: the code's bytes can be read. -/
import Derived.Test.YtddhgepnoijpoaaDc
namespace Go.Proofs.Ytddhgepnoijpoaa
open Go.RowKit

theorem CodeAt.kept {w W : World} {A : Option Addr} {n : Nat} (h : CodeAt w A n) (hb : Below w.heap.size w W) : CodeAt W A n := by
  refine ⟨h.1, fun h0 => ?_⟩
  obtain ⟨b, o, e, hlt, hx⟩ := h.2 h0
  refine ⟨b, o, e, Nat.lt_of_lt_of_le hlt hb.size, fun k hk => ?_⟩
  obtain ⟨x, hx⟩ := hx k hk
  exact ⟨x, (hb.cell (p := ⟨b, o + k, none⟩) hlt).trans hx⟩
/-- The two sets compared by '=='. -/
theorem eqGuardCs : Try.prog.eqGuardType Try.prog.depth 23 = false := by kernel_rfl
theorem eqlCs (a b c d : Int) (w : World) : (Op.equalIn 10000 23 (.agg #[.int .i64 a, .int .i64 b]) (.agg #[.int .i64 c, .int .i64 d])).run Try.prog w = .ok (a == c && b == d) w := by
  have hS : Try.prog.underlying 23 = some (.struct (Try.prog.fieldsOf 23)) := by kernel_rfl
  have hp : Try.prog.stoodInHeld 23 = false := by kernel_rfl
  rw [show (10000 : Nat) = 9999 + 1 from rfl, run_equalIn_agg w 9999 23 _ _ hS hp]
  simp only [Program.fieldsOf, Try.underlying23]
  go_simp
  by_cases h1 : a = c <;> by_cases h2 : b = d <;> simp [h1, h2]
set_option maxHeartbeats 4000000 in
theorem l4Text (g : Nat) (w : World) (hc : Cur w g) : Calls Try.prog 23 #[.pointer (some ⟨g, 0, none⟩)] w (TextP W130 g w) := by
  go_enter Try.func23, Try.ntmps23
  go_wp2_with (go_at_call 39; refine Calls.mono (l1PickLit sz12 rfl hc (by decide) rfl (by omega) (by omega)) ?_; rintro e w1 ⟨t, ht, rfl, hc1, hg1⟩; have hts : t.size ≤ 12 := (by simpa [sz12] using ht); clear ht)
  go_ret
  exact textP_of (by omega) hc1 (only_trans (only_alloc (only_refl w (some g)) _) hg1)
/-- Some text that is not long. -/
def QtP (w : World) (e : Ending) (w' : World) : Prop := ∃ t : ByteArray, t.size ≤ 260 ∧ e = .returned (.string t) ∧ Below w.heap.size w w'
set_option maxHeartbeats 4000000 in
theorem drawQuoteText (A : Option Addr) (n cap : Nat) (w : World) (hc : CodeAt w A n) : Calls Try.prog 12 #[.slice A n cap] w (QtP w) := by
  go_enter Try.func12, Try.ntmps12
  go_upto_region 2 with (go_at_call 22; refine (l1New A n cap _ hc).mono ?_; rintro e w1 ⟨g, rfl, hg, hc1, hb1⟩)
  go_wp2_with (first
    | (go_at_call 23; refine (l4Text g _ hc1).mono ?_; rintro e w2 ⟨t, ht, rfl, hc2, hg2⟩; have ht' : t.size ≤ 130 := ht)
    | (go_at_call 24; refine (l3Word g _ hc2).mono ?_; rintro e w3 ⟨u, hu, rfl, hc3, hg3⟩; have hu' : u.size ≤ 130 := hu))
  go_ret
  exact ⟨_, by rw [ByteArray.size_append]; omega, rfl, only_own hb1 (only_trans hg2 hg3) hg⟩
/-- Some set. -/
def QcP (w : World) (e : Ending) (w' : World) : Prop := ∃ a b, I64 a ∧ I64 b ∧ e = .returned (cs a b) ∧ Below w.heap.size w w'
set_option maxRecDepth 20000 in
set_option maxHeartbeats 4000000 in
theorem drawCsetText (A : Option Addr) (n cap : Nat) (w : World) (hc : CodeAt w A n) : Calls Try.prog 25 #[.slice A n cap] w (QcP w) := by
  have hcode := hc.kept ((Below.refl _ _).alloc (Nat.le_refl _) (csB 23 0 0))
  have hR0 : Blk (w.alloc (csB 23 0 0)) w.heap.size 23 #[.int .i64 0, .int .i64 0] := Blk.new _ _ _
  go_enter Try.func25, Try.ntmps25
  go_upto_region 2 with (go_at_call 22; refine (l1New A n cap _ hcode).mono ?_; rintro e w1 ⟨g, rfl, hg, hc1, hb1⟩; simp at hg)
  have hR1 := hR0.kept hb1
  have hbb : Below w.heap.size w w1 := Below.trans (by repeat (first | exact Below.refl _ _ | refine Below.drew ?_ | refine Below.setCell ?_ (by (try simp); try omega) _ | refine Below.alloc ?_ (by (try simp); try omega) _)) (hb1.mono (by simp))
  have hb1s := hb1.size
  simp at hb1s
  go_wp2_with (go_at_call 43; refine (l2Draw g _ hc1).mono ?_; rintro e w2 ⟨a, b, ha, hb, rfl, hc2, hg2⟩; clear hc1; have hR2 := hR1.grown hg2 (by simp; omega); have r0 := hR2.cell 0; have r1 := hR2.cell 1; have s0 := hR2.frozen 0; have s1 := hR2.frozen 1; simp at r0 r1)
  refine bodyPost_ret (v := cs a b) (by simp [results, Try.results25, go_sem, r0, r1]) rfl ⟨a, b, ha, hb, rfl, ?_⟩
  have hbf := only_own hbb hg2 (by omega)
  repeat (first | exact hbf | refine Below.setCell ?_ (by (try simp); try omega) _ | refine Below.drew ?_)
set_option maxRecDepth 20000 in
set_option maxHeartbeats 4000000 in
theorem drawQuoteCset (A : Option Addr) (n cap : Nat) (w : World) (hc : CodeAt w A n) : Calls Try.prog 13 #[.slice A n cap] w (QcP w) := by
  have hcode := hc.kept ((Below.refl _ _).alloc (Nat.le_refl _) (csB 23 0 0))
  have hR0 : Blk (w.alloc (csB 23 0 0)) w.heap.size 23 #[.int .i64 0, .int .i64 0] := Blk.new _ _ _
  go_enter Try.func13, Try.ntmps13
  go_wp2_with (go_at_call 25; refine (drawCsetText A n cap _ hcode).mono ?_; rintro e w1 ⟨a, b, ha, hb, rfl, hb1⟩; have hR1 := hR0.kept hb1; have r0 := hR1.cell 0; have r1 := hR1.cell 1; have s0 := hR1.frozen 0; have s1 := hR1.frozen 1; simp at r0 r1)
  refine bodyPost_ret (v := cs a b) (by simp [results, Try.results13, go_sem, r0, r1]) rfl ⟨a, b, ha, hb, rfl, ?_⟩
  have hbf : Below w.heap.size w w1 := Below.trans (by repeat (first | exact Below.refl _ _ | refine Below.drew ?_ | refine Below.setCell ?_ (by (try simp); try omega) _ | refine Below.alloc ?_ (by (try simp); try omega) _)) (hb1.mono (by simp))
  repeat (first | exact hbf | refine Below.setCell ?_ (by (try simp); try omega) _ | refine Below.drew ?_)
end Go.Proofs.Ytddhgepnoijpoaa
