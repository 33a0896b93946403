/- Proved here: what the reference's test of a case's number gives where it does not fit. Condition: the counts fit. -/
import Derived.Test.YtljblaglfooclaaDoorVd
namespace Go.Proofs.YtljblaglfooclaaDoor
open Go.RowKit
namespace X

section
variable (t : ByteArray) (l : Int) (r : List X) (A : Option Addr) (cap d lo hi : Nat) (w : World)
set_option maxHeartbeats 1000000 in
theorem valid_0 (v : Bool) (hv : v = false) (m : Nat) (hm : (r.length : Int) - 1 = (m : Int)) (h1 : ((m : Int) % 2 == 0) = false) (hKd : KdC 20 t 0 l (.slice A r.length cap) lo hi) (hWd : WdC 20 t 0 l (.slice A r.length cap) true)
    (o0 : d ≤ 40) (o3 : lo ≤ r.length) (o4 : r.length ≤ hi) (o5 : 0 ≤ l) (hl : hi ≤ 24) :
    Calls Tryd.prog 30 #[.agg #[.int .i64 20, .string t, .int .i64 0, .int .i64 l, .slice A r.length cap], .int .i64 (d : Int)] w fun e w' => e = .returned (.bool v) ∧ Below w.heap.size w w' := by
  subst hv
  unfold KdC at hKd
  unfold WdC at hWd
  have b4 : ((m : Int) % 2 != 0) = true := by rw [bne, h1]; rfl
  have hm24 : m ≤ 24 := by omega
  generalize r.length = len at *
  go_enter Tryd.func30, Tryd.ntmps30
  go_wp2_with (first
    | (go_at_call 43; refine (hKd _).mono ?_; rintro e w1 ⟨rfl, hb1⟩; have hbx := Var.kept (Var.new w 20 t 0 l (.slice A len cap) 45) hb1; obtain ⟨a0, a1, a2, a3, a4⟩ := id hbx)
    | (go_at_call 44; refine (hWd _).mono ?_; rintro e w2 ⟨rfl, hb2⟩; have hbx := hbx.kept hb2; obtain ⟨a0, a1, a2, a3, a4⟩ := id hbx))
  go_ret
  exact ⟨rfl, (Below.trans (by repeat (first | exact Below.refl _ _ | refine Below.drew ?_ | refine Below.setCell ?_ (by (try simp); try omega) _ | refine Below.alloc ?_ (by (try simp); try omega) _)) (hb1.mono (by simp))).trans (hb2.mono (by have := hb1.size; simp at this; omega))⟩
set_option maxHeartbeats 1000000 in
theorem valid_1 (v : Bool) (hv : v = false) (m : Nat) (hm : (r.length : Int) - 1 - 1 = (m : Int)) (h1 : ((m : Int) % 2 == 0) = false) (hKd : KdC 20 t 1 l (.slice A r.length cap) lo hi) (hWd : WdC 20 t 1 l (.slice A r.length cap) true)
    (o0 : d ≤ 40) (o3 : lo ≤ r.length) (o4 : r.length ≤ hi) (o5 : 0 ≤ l) (hl : hi ≤ 24) :
    Calls Tryd.prog 30 #[.agg #[.int .i64 20, .string t, .int .i64 1, .int .i64 l, .slice A r.length cap], .int .i64 (d : Int)] w fun e w' => e = .returned (.bool v) ∧ Below w.heap.size w w' := by
  subst hv
  unfold KdC at hKd
  unfold WdC at hWd
  have b4 : ((m : Int) % 2 != 0) = true := by rw [bne, h1]; rfl
  have hm24 : m ≤ 24 := by omega
  generalize r.length = len at *
  go_enter Tryd.func30, Tryd.ntmps30
  go_wp2_with (first
    | (go_at_call 43; refine (hKd _).mono ?_; rintro e w1 ⟨rfl, hb1⟩; have hbx := Var.kept (Var.new w 20 t 1 l (.slice A len cap) 45) hb1; obtain ⟨a0, a1, a2, a3, a4⟩ := id hbx)
    | (go_at_call 44; refine (hWd _).mono ?_; rintro e w2 ⟨rfl, hb2⟩; have hbx := hbx.kept hb2; obtain ⟨a0, a1, a2, a3, a4⟩ := id hbx))
  go_ret
  exact ⟨rfl, (Below.trans (by repeat (first | exact Below.refl _ _ | refine Below.drew ?_ | refine Below.setCell ?_ (by (try simp); try omega) _ | refine Below.alloc ?_ (by (try simp); try omega) _)) (hb1.mono (by simp))).trans (hb2.mono (by have := hb1.size; simp at this; omega))⟩
set_option maxHeartbeats 1000000 in
theorem valid_2 (v : Bool) (hv : v = false) (len : Nat) (hr1 : len = 1) (hKd : KdC 20 t 1 l (.slice A len cap) lo hi) (hWd : WdC 20 t 1 l (.slice A len cap) true)
    (o0 : d ≤ 40) (o3 : lo ≤ len) (o4 : len ≤ hi) (o5 : 0 ≤ l) :
    Calls Tryd.prog 30 #[.agg #[.int .i64 20, .string t, .int .i64 1, .int .i64 l, .slice A len cap], .int .i64 (d : Int)] w fun e w' => e = .returned (.bool v) ∧ Below w.heap.size w w' := by
  subst hv hr1
  unfold KdC at hKd
  unfold WdC at hWd
  go_enter Tryd.func30, Tryd.ntmps30
  go_wp2_with (first
    | (go_at_call 43; refine (hKd _).mono ?_; rintro e w1 ⟨rfl, hb1⟩; have hbx := Var.kept (Var.new w 20 t 1 l (.slice A 1 cap) 45) hb1; obtain ⟨a0, a1, a2, a3, a4⟩ := id hbx)
    | (go_at_call 44; refine (hWd _).mono ?_; rintro e w2 ⟨rfl, hb2⟩; have hbx := hbx.kept hb2; obtain ⟨a0, a1, a2, a3, a4⟩ := id hbx))
  go_ret
  exact ⟨rfl, (Below.trans (by repeat (first | exact Below.refl _ _ | refine Below.drew ?_ | refine Below.setCell ?_ (by (try simp); try omega) _ | refine Below.alloc ?_ (by (try simp); try omega) _)) (hb1.mono (by simp))).trans (hb2.mono (by have := hb1.size; simp at this; omega))⟩
end
end X
end Go.Proofs.YtljblaglfooclaaDoor
