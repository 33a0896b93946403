/- Proved here: what the law's markStringS leaves of a slice of texts of the call's own, and that heldStringS finds it so. Condition: the counters fit. -/
import Derived.Test.YtljblaglfooclaaSs
import Derived.Test.YtljblaglfooclaaMk
import Derived.Test.YtljblaglfooclaaGw
namespace Go.Proofs.Ytljblaglfooclaa
open Go.RowKit

/-- The marks from n on, k of them. -/
def marksL (n k : Nat) : List ByteArray := (List.range k).map fun j => markT (n + j)
theorem marksL_len (n k : Nat) : (marksL n k).length = k := by simp [marksL]
theorem marksL_at {n k j : Nat} (h : j < (marksL n k).length) : (marksL n k)[j] = markT (n + j) := by simp [marksL]
theorem marks_set (l : List ByteArray) (n k : Nat) (h : k < l.length) : (marksL n k ++ l.drop k).set k (markT (n + k)) = marksL n (k + 1) ++ l.drop (k + 1) := by
  rw [List.set_append_right _ _ (by rw [marksL_len]; omega), marksL_len, Nat.sub_self, List.drop_eq_getElem_cons h, List.set_cons_zero]
  have : marksL n (k + 1) = marksL n k ++ [markT (n + k)] := by simp [marksL, List.range_succ]
  rw [this, List.append_assoc]; rfl
theorem SBuf.grown {w w' : World} {B : Nat} {v : Value} {l : List ByteArray} {row : Option Nat} (h : SBuf w B v l) (hg : w.grownBy w' row) (hne : ∀ k, v.ownBlock = some k → some k ≠ row) : SBuf w' B v l := by
  have hlt := World.ownsRow.lt h
  refine ⟨h.1, ?_⟩
  rcases h.2 with h0 | ⟨g, cap, cur, rfl, hb, hh, r⟩
  · exact .inl h0
  · exact .inr ⟨g, cap, cur, rfl, hb, (hg.block g (hlt g rfl).2 (hne g rfl)).trans hh, r⟩
theorem ret_nn {a b : Nat} (h : a = b) : Ending.returned (.int .i64 (a : Int)) = .returned (.int .i64 (b : Int)) := by rw [h]
theorem teq_same (t : ByteArray) : (t.toList == t.toList) = true := by simp
set_option maxRecDepth 20000 in
set_option maxHeartbeats 4000000 in
theorem markS (l : List ByteArray) (s : Value) (B k0 : Nat) (w : World) (hK : SBuf w B s l) (hk0 : 0 < k0) (hkc : k0 + l.length ≤ 1099511627776) :
    Calls Try.prog 23 #[s, .int .i64 (k0 : Int)] w fun e w' => e = .returned (.int .i64 ((k0 + l.length : Nat) : Int)) ∧ SBuf w' B s (marksL k0 l.length) ∧ w.grownBy w' s.ownBlock := by
  obtain ⟨A, cap, rfl⟩ := hK.form
  go_enter Try.func23, Try.ntmps23
  go_wp2_with fail
  go_loopw [1, 5] (fun a i wr => ∃ j m : Nat, i = .int .i64 j ∧ a = .int .i64 m ∧ Hid (m = k0 + j) ∧ 0 < m ∧ m ≤ 1099511627776 ∧ j ≤ l.length ∧ Hid (SBuf wr B (.slice A l.length cap) (marksL k0 j ++ l.drop j) ∧ w.grownBy wr (Value.slice A l.length cap).ownBlock))
    (fun _ i _ => l.length - (intOf i).toNat)
  case atStart => exact ⟨0, k0, rfl, rfl, Lib.hid (by simp), by omega, by omega, by omega, Lib.hid ⟨by simpa [marksL] using hK, only_refl _ _⟩⟩
  case round =>
    obtain ⟨j, m, rfl, rfl, HM, hm0, hm, hj, HO⟩ := hrel
    by_cases hlt : j < l.length
    · obtain ⟨ho, hg⟩ := HO.out
      have hll : (marksL k0 j ++ l.drop j).length = l.length := by simp [marksL_len]; omega
      obtain ⟨g, hA⟩ : ∃ g, A = some ⟨g, 0, none⟩ := by
        rcases ho.2 with ⟨e, h0⟩ | ⟨g, c, cur, e, _⟩
        · rw [hll] at h0; omega
        · exact ⟨g, by injection e⟩
      subst hA
      obtain ⟨m1, hm1⟩ : ∃ z, z = m + 1 := ⟨_, rfl⟩
      have i1 : (m : Int) + 1 = (m1 : Int) := by omega
      have i0 : (j : Int) < (l.length : Int) := by omega
      have hM : ∀ W : World, Calls Try.prog 34 #[.int .i64 (m : Int)] W fun e w' => e = .returned (.string (markT m)) ∧ Below W.heap.size W w' := fun W => markText m (by omega) (by omega) W
      have hset := Lib.hid (show (marksL k0 j ++ l.drop j).set j (markT m) = marksL k0 (j + 1) ++ l.drop (j + 1) by rw [HM.out]; exact marks_set l k0 j hlt)
      have HN := Lib.hid (show m1 = k0 + (j + 1) by have := HM.out; omega)
      have hm1' : m1 ≤ 1099511627776 := by have := HM.out; omega
      have hm1'' : 0 < m1 := by omega
      have f0 := ho.frozenAt hll j
      have c0 := ho.cellAt hll j (by omega)
      have HG := Lib.hid hg
      have Hho := Lib.hid ho
      clear HM hm1 HO ho hg
      go_wp2_with (go_at_call 34; refine (hM _).mono ?_; rintro e w2 ⟨rfl, hb2⟩; have o2 := Hho.out.kept hb2; have f2 := o2.frozenAt hll j; have c2 := o2.cellAt hll j (by omega))
      have hN2 := Lib.hid (show SBuf (w2.setCell ⟨g, j, none⟩ (.string (markT m))) B (.slice (some ⟨g, 0, none⟩) l.length cap) (marksL k0 (j + 1) ++ l.drop (j + 1)) by rw [← hset.out]; exact o2.stored hll j (markT m))
      have hG2 := Lib.hid (show w.grownBy (w2.setCell ⟨g, j, none⟩ (.string (markT m))) (some g) from only_set (only_below HG.out hb2) j _)
      clear o2 f2 c2 f0 c0
      go_roundw
      case rel => exact ⟨j + 1, m1, by go_num, rfl, HN, hm1'', hm1', by omega, Lib.hid ⟨hN2.out, hG2.out⟩⟩
      case measure => simp [intOf]; omega
    · obtain rfl : j = l.length := by omega
      obtain ⟨ho, hg⟩ := HO.out
      rw [List.drop_length, List.append_nil] at ho
      have HN := Lib.hid (show m = k0 + l.length from HM.out)
      have HK := Lib.hid (And.intro ho hg)
      clear HM HO ho hg
      go_wp2_with fail
      go_ret
      exact ⟨ret_nn HN.out, HK.out.1, HK.out.2⟩
set_option maxRecDepth 20000 in
set_option maxHeartbeats 4000000 in
theorem heldS (n k0 : Nat) (s : Value) (P : Nat → Prop) (w : World) (hK : Sr w P s (marksL k0 n)) (hP : ∀ b, P b → b < w.heap.size) (hk0 : 0 < k0) (hkc : k0 + n ≤ 1099511627776) :
    Calls Try.prog 26 #[s, .int .i64 (k0 : Int)] w fun e w' => e = .returned (.int .i64 ((k0 + n : Nat) : Int)) ∧ Below w.heap.size w w' := by
  obtain ⟨A, cap, hs⟩ := hK.form
  rw [marksL_len] at hs
  subst hs
  go_enter Try.func26, Try.ntmps26
  go_wp2_with fail
  go_loopw [1, 5] (fun a i wr => ∃ j m : Nat, i = .int .i64 j ∧ a = .int .i64 m ∧ Hid (m = k0 + j) ∧ 0 < m ∧ m ≤ 1099511627776 ∧ j ≤ n ∧ Below w.heap.size w wr)
    (fun _ i _ => n - (intOf i).toNat)
  case atStart => exact ⟨0, k0, rfl, rfl, Lib.hid (by simp), by omega, by omega, by omega, Below.refl _ _⟩
  case round =>
    obtain ⟨j, m, rfl, rfl, HM, hm0, hm, hj, hb⟩ := hrel
    have hsz := hb.size
    by_cases hlt : j < n
    · obtain ⟨b, o, rfl, hPb, c0⟩ := Sr.at_ (hK.below hb hP) (i := j) (by rw [marksL_len]; exact hlt)
      rw [marksL_at, ← HM.out] at c0
      obtain ⟨m1, hm1⟩ : ∃ z, z = m + 1 := ⟨_, rfl⟩
      have i1 : (m : Int) + 1 = (m1 : Int) := by omega
      have i0 : (j : Int) < (n : Int) := by omega
      have hM : ∀ W : World, Calls Try.prog 34 #[.int .i64 (m : Int)] W fun e w' => e = .returned (.string (markT m)) ∧ Below W.heap.size W w' := fun W => markText m (by omega) (by omega) W
      have HN := Lib.hid (show m1 = k0 + (j + 1) by have := HM.out; omega)
      have hm1' : m1 ≤ 1099511627776 := by have := HM.out; omega
      have hm1'' : 0 < m1 := by omega
      have b2 := teq_same (markT m)
      clear HM hm1
      go_wp2_with fail
      go_region_held3 (fun w' => w'.cell? ⟨b, o + j, none⟩ = some (.string (markT m))) ((refine kc1 (W := wr) ?_ c0; repeat (first | exact Below.refl _ _ | refine Below.drew ?_ | refine Below.alloc ?_ (by (try simp); try omega) _ | refine Below.trans ?_ (hb3.mono (by (try simp); try omega)) | refine Below.trans ?_ (hb4.mono (by (try simp); try omega)) | refine Below.trans ?_ (hb5.mono (by (try simp); try omega)))))
        (first | (go_at_call 34; refine (hM _).mono ?_; rintro e w3 ⟨rfl, hb3⟩; have hw3 : Below wr.heap.size wr w3 := Below.trans (by repeat (first | exact Below.refl _ _ | refine Below.drew ?_ | refine Below.setCell ?_ (by (try simp); try omega) _ | refine Below.alloc ?_ (by (try simp); try omega) _)) (hb3.mono (by simp))))
      all_goals
        go_wp2_with fail
        go_roundw
        case rel => exact ⟨j + 1, m1, by go_num, rfl, HN, hm1'', hm1', by omega, hb.trans (hw3.mono hsz)⟩
        case measure => simp [intOf]; omega
    · obtain rfl : j = n := by omega
      have HN := Lib.hid (show m = k0 + j from HM.out)
      clear HM
      go_wp2_with fail
      go_ret
      exact ⟨ret_nn HN.out, hb⟩
end Go.Proofs.Ytljblaglfooclaa
