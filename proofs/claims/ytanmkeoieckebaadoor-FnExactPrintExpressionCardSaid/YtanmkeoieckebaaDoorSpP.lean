/- Proved here: plain facts on the parts of a text between the occurrences of a byte. No condition; nothing of the program is named. -/
import Derived.Test.YtanmkeoieckebaaDoorPl
import Derived.Lib.Strings
namespace Go.Proofs.YtanmkeoieckebaaDoor

/-- The parts of m behind the part cur that has begun. -/
def splitG (by_ : UInt8) : List UInt8 → List UInt8 → List (List UInt8)
  | cur, [] => [cur]
  | cur, b :: r => if b = by_ then cur :: splitG by_ [] r else splitG by_ (cur ++ [b]) r
def splitL (by_ : UInt8) (l : List UInt8) : List (List UInt8) := splitG by_ [] l
def mkT (l : List UInt8) : ByteArray := ⟨l.toArray⟩
/-- The parts of a text between the occurrences of a byte. -/
def splitT (by_ : UInt8) (s : ByteArray) : List ByteArray := (splitL by_ s.data.toList).map mkT
theorem splitG_nil (by_ : UInt8) (cur : List UInt8) : splitG by_ cur [] = [cur] := rfl
theorem splitG_yes {by_ : UInt8} {cur : List UInt8} {b : UInt8} {r : List UInt8} (h : b = by_) : splitG by_ cur (b :: r) = cur :: splitG by_ [] r := if_pos h
theorem splitG_no {by_ : UInt8} {cur : List UInt8} {b : UInt8} {r : List UInt8} (h : ¬ b = by_) : splitG by_ cur (b :: r) = splitG by_ (cur ++ [b]) r := if_neg h
/-- What is done at index i, the part having begun at index a. -/
def SpR (by_ : UInt8) (s : ByteArray) (a i : Nat) (acc : List ByteArray) : Prop := splitT by_ s = acc ++ (splitG by_ ((s.data.toList.drop a).take (i - a)) (s.data.toList.drop i)).map mkT
theorem SpR.start (by_ : UInt8) (s : ByteArray) : SpR by_ s 0 0 [] := by simp [SpR, splitT, splitL]
theorem ext_mk (s : ByteArray) (a i : Nat) : mkT ((s.data.toList.drop a).take (i - a)) = s.extract a i := by
  rw [mkT, Lib.extract_eq]
theorem seg_more (s : ByteArray) {a i : Nat} (ha : a ≤ i) (hi : i < s.size) : (s.data.toList.drop a).take (i + 1 - a) = (s.data.toList.drop a).take (i - a) ++ [s[i]] := by
  rw [show i + 1 - a = (i - a) + 1 from by omega, List.take_succ_eq_append_getElem (by simp; omega)]
  congr 2
  rw [List.getElem_drop]
  show s.data.toList[a + (i - a)]'_ = s.data.toList[i]'_
  congr 1
  omega
theorem SpR.no {by_ : UInt8} {s : ByteArray} {a i : Nat} {acc : List ByteArray} (h : SpR by_ s a i acc) (ha : a ≤ i) (hi : i < s.size) (hb : ¬ s[i] = by_) : SpR by_ s a (i + 1) acc := by
  unfold SpR at *
  have hb' : ¬ s.data.toList[i]'(by simpa using hi) = by_ := hb
  rw [h, List.drop_eq_getElem_cons (i := i) (by simpa using hi), splitG_no hb', seg_more s ha hi]; rfl
theorem SpR.yes {by_ : UInt8} {s : ByteArray} {a i : Nat} {acc : List ByteArray} (h : SpR by_ s a i acc) (hi : i < s.size) (hb : s[i] = by_) : SpR by_ s (i + 1) (i + 1) (acc ++ [s.extract a i]) := by
  unfold SpR at *
  have hb' : s.data.toList[i]'(by simpa using hi) = by_ := hb
  rw [h, List.drop_eq_getElem_cons (i := i) (by simpa using hi), splitG_yes hb', List.map_cons, ext_mk]; simp
theorem SpR.done {by_ : UInt8} {s : ByteArray} {a : Nat} {acc : List ByteArray} (h : SpR by_ s a s.size acc) : splitT by_ s = acc ++ [s.extract a s.size] := by
  unfold SpR at h
  rw [h, List.drop_of_length_le (l := s.data.toList) (i := s.size) (by simp), splitG_nil, List.map_cons, ext_mk]; rfl
theorem splitG_len (by_ : UInt8) : ∀ (r cur : List UInt8), (splitG by_ cur r).length ≤ r.length + 1
  | [], cur => by simp [splitG_nil]
  | b :: r, cur => by
    by_cases h : b = by_
    · rw [splitG_yes h]; have := splitG_len by_ r []; simp; omega
    · rw [splitG_no h]; have := splitG_len by_ r (cur ++ [b]); simp; omega
theorem splitT_len (by_ : UInt8) (s : ByteArray) : (splitT by_ s).length ≤ s.size + 1 := by
  have := splitG_len by_ s.data.toList []
  simpa [splitT, splitL] using this
theorem splitG_part (by_ : UInt8) : ∀ (r cur : List UInt8), ∀ x ∈ splitG by_ cur r, x.length ≤ cur.length + r.length
  | [], cur, x, hx => by
    rw [splitG_nil, List.mem_singleton] at hx
    subst hx; omega
  | b :: r, cur, x, hx => by
    by_cases h : b = by_
    · rw [splitG_yes h, List.mem_cons] at hx
      rcases hx with rfl | hx
      · omega
      · have := splitG_part by_ r [] x hx; simp at this ⊢; omega
    · rw [splitG_no h] at hx
      have := splitG_part by_ r (cur ++ [b]) x hx
      simp at this ⊢; omega
theorem splitT_part (by_ : UInt8) (s : ByteArray) : ∀ x ∈ splitT by_ s, x.size ≤ s.size := by
  intro x hx
  unfold splitT splitL at hx
  rw [List.mem_map] at hx
  obtain ⟨l, hl, rfl⟩ := hx
  have := splitG_part by_ s.data.toList [] l hl
  have e : (mkT l).size = l.length := by show l.toArray.size = _; simp
  have e2 : s.data.toList.length = s.size := rfl
  simp at this
  omega
end Go.Proofs.YtanmkeoieckebaaDoor
