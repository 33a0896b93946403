/- Proved here: what Join returns, of the program and of the reference. Condition: the list and its texts fit. -/
import Derived.Test.YtanmkeoieckebaaDoorSs
import Derived.Test.YtanmkeoieckebaaDoorBuf
import Derived.Test.YtanmkeoieckebaaDoorSh
import Derived.Lib.Join
namespace Go.Proofs.YtanmkeoieckebaaDoor
open Go.RowKit

/-- The texts with another one between them, as bytes. -/
def jnL (by_ : ByteArray) (l : List ByteArray) : List UInt8 := Lib.join (l.map (·.data.toList)) by_.data.toList
/-- What Join gives: nothing where it would be too long. -/
def joinR (by_ : ByteArray) (l : List ByteArray) : ByteArray := if (jnL by_ l).length ≤ 1048576 then ⟨(jnL by_ l).toArray⟩ else ⟨#[]⟩
theorem joinTail_snoc (sep x : List UInt8) (r : List (List UInt8)) : Lib.joinTail sep (r ++ [x]) = Lib.joinTail sep r ++ (sep ++ x) := by simp [Lib.joinTail]
theorem jnL_one (by_ x : ByteArray) : jnL by_ [x] = x.data.toList := Lib.join_one _ _
theorem jnL_snoc (by_ x : ByteArray) (l : List ByteArray) (h : 0 < l.length) : jnL by_ (l ++ [x]) = jnL by_ l ++ by_.data.toList ++ x.data.toList := by
  cases l with
  | nil => simp at h
  | cons a r =>
    unfold jnL
    rw [List.map_append, List.map_cons, List.cons_append, Lib.join_cons, Lib.join_cons, List.map_cons, List.map_nil, joinTail_snoc]
    simp only [List.append_assoc]
theorem jnL_len_le (by_ : ByteArray) (l : List ByteArray) (i : Nat) (h : i < l.length) : (jnL by_ (l.take i)).length ≤ (jnL by_ (l.take (i + 1))).length := by
  rw [List.take_succ_eq_append_getElem h]
  rcases Nat.eq_zero_or_pos i with rfl | hi
  · simp [jnL, Lib.join_nil]
  · rw [jnL_snoc _ _ _ (by simp; omega)]; simp only [List.length_append]; omega
theorem jnL_mono (by_ : ByteArray) (l : List ByteArray) : ∀ (d i : Nat), i + d ≤ l.length → (jnL by_ (l.take i)).length ≤ (jnL by_ (l.take (i + d))).length
  | 0, i, _ => Nat.le_refl _
  | d + 1, i, h => Nat.le_trans (jnL_mono by_ l d i (by omega)) (jnL_len_le by_ l (i + d) (by omega))
theorem jnL_all (by_ : ByteArray) (l : List ByteArray) {i : Nat} (h : i ≤ l.length) : (jnL by_ (l.take i)).length ≤ (jnL by_ l).length := by
  have := jnL_mono by_ l (l.length - i) i (by omega)
  rwa [show i + (l.length - i) = l.length by omega, List.take_length] at this
theorem joinR_big {by_ : ByteArray} {l : List ByteArray} {i : Nat} (h : i ≤ l.length) (hb : 1048576 < (jnL by_ (l.take i)).length) : joinR by_ l = ⟨#[]⟩ := by
  have := jnL_all by_ l h
  exact if_neg (by omega)
theorem joinR_yes {by_ : ByteArray} {l : List ByteArray} (h : (jnL by_ l).length ≤ 1048576) : joinR by_ l = ⟨(jnL by_ l).toArray⟩ := if_pos h
theorem ret_st {a b : ByteArray} (h : a = b) : Ending.returned (.string a) = .returned (.string b) := by rw [h]
theorem jn_first (by_ : ByteArray) (l : List ByteArray) (h : 0 < l.length) : jnL by_ (l.take 0) ++ l[0].data.toList = jnL by_ (l.take (0 + 1)) := by
  rw [List.take_succ_eq_append_getElem h]; simp [jnL, Lib.join_nil, Lib.join_one]
theorem jn_next (by_ : ByteArray) (l : List ByteArray) {j : Nat} (h : j < l.length) (hj : 0 < j) : jnL by_ (l.take j) ++ by_.data.toList ++ l[j].data.toList = jnL by_ (l.take (j + 1)) := by
  rw [List.take_succ_eq_append_getElem h, jnL_snoc _ _ _ (by simp; omega)]
theorem Buf.ofE {w : World} {B : Nat} {v : Value} {l m : List UInt8} (h : Buf w B v l) (e : l = m) : Buf w B v m := by subst e; exact h
theorem Buf.form {w : World} {B : Nat} {v : Value} {l : List UInt8} (h : Buf w B v l) : ∃ A cap, v = .slice A l.length cap := by
  rcases h.2 with ⟨rfl, h0⟩ | ⟨g, cap, cur, rfl, _⟩
  · exact ⟨none, 0, by rw [h0]⟩
  · exact ⟨_, _, rfl⟩
theorem Buf.formN {w : World} {B : Nat} {v : Value} {l : List UInt8} (h : Buf w B v l) : ∃ A n cap, v = .slice A n cap ∧ Hid (n = l.length) ∧ n ≤ l.length ∧ l.length ≤ n := by
  obtain ⟨A, cap, e⟩ := h.form
  exact ⟨A, _, cap, e, Lib.hid rfl, Nat.le_refl _, Nat.le_refl _⟩
set_option maxHeartbeats 2000000 in
theorem implJoined (l : List ByteArray) (by_ : ByteArray) (s : Value) (P : Nat → Prop) (w : World) (hK : Sr w P s l) (hP : ∀ b, P b → b < w.heap.size) (hl : l.length ≤ 1048576) (hj : (jnL by_ l).length ≤ 1048576) :
    Calls Tryd.prog 72 #[s, .string by_] w fun e w' => e = .returned (.string (joinR by_ l)) ∧ Below w.heap.size w w' := by
  have HJ := Lib.hid (joinR_yes hj)
  obtain ⟨A, cap, rfl⟩ := hK.form
  have hc : Calls Tryd.prog 117 #[.slice A l.length cap, .string by_] w fun e w' => e = .returned (.string (joinR by_ l)) ∧ Below w.heap.size w w' := by
    rw [HJ.out]
    rcases Nat.eq_zero_or_pos l.length with h0 | h0
    · have e : l = [] := List.eq_nil_of_length_eq_zero h0
      subst e
      exact (Go.Proofs.Tryd.strings_Join_none A cap by_ w).mono fun e w' ⟨he, hw⟩ => ⟨he, by rw [hw]; exact Below.refl _ _⟩
    · obtain ⟨b, o, rfl, hb, hcell⟩ := hK.row h0
      exact Go.Proofs.Tryd.strings_Join b o cap l by_ w (fun j x hx => by
        obtain ⟨hlt, rfl⟩ := List.getElem?_eq_some_iff.1 hx
        exact hcell j hlt) (hP b hb) (by omega) hK.cap_ (Nat.le_trans hj (by omega))
  go_enter Tryd.func72, Tryd.ntmps72
  go_wp2_with (go_at_call 117; refine hc.mono ?_; rintro e w1 ⟨rfl, hb1⟩)
  go_ret
  exact ⟨rfl, hb1⟩
set_option maxHeartbeats 2000000 in
theorem implJoin (l : List ByteArray) (by_ : ByteArray) (s : Value) (P : Nat → Prop) (w : World) (hK : Sr w P s l) (hP : ∀ b, P b → b < w.heap.size) (hl : l.length ≤ 1048576) (hby : by_.size ≤ 1048576) (hw : ∀ i (h : i < l.length), l[i].size ≤ 1048576) :
    Calls Tryd.prog 32 #[s, .string by_] w fun e w' => e = .returned (.string (joinR by_ l)) ∧ Below w.heap.size w w' := by
  have hJ := implJoined l by_ s P w hK hP hl
  obtain ⟨A, cap, rfl⟩ := hK.form
  go_enter Tryd.func32, Tryd.ntmps32
  go_wp2_with fail
  go_loop [5, 10] (fun a i => ∃ j m : Nat, i = .int .i64 j ∧ a = .int .i64 m ∧ Hid (m = (jnL by_ (l.take j)).length) ∧ m ≤ 1048576 ∧ j ≤ l.length)
    (fun _ i => l.length - (intOf i).toNat)
  case atStart => exact ⟨0, 0, rfl, rfl, Lib.hid (by simp [jnL, Lib.join_nil]), by omega, by omega⟩
  case round =>
    obtain ⟨j, m, rfl, rfl, HM, hm, hj⟩ := hrel
    by_cases hlt : j < l.length
    · obtain ⟨b, o, rfl, hPb, c0⟩ := Sr.at_ hK hlt
      have hwj := hw j hlt
      clear hJ
      by_cases hj0 : 0 < j
      · have e := congrArg List.length (jn_next by_ l hlt hj0)
        rw [List.length_append, List.length_append] at e
        have e1 : by_.data.toList.length = by_.size := rfl
        have e2 : l[j].data.toList.length = l[j].size := rfl
        have e3 := HM.out
        by_cases hbig : m + by_.size + l[j].size ≤ 1048576
        · have HN := Lib.hid (show m + by_.size + l[j].size = (jnL by_ (l.take (j + 1))).length by omega)
          clear e e1 e2 e3 HM
          go_wp2_with fail
          go_round
          case rel => exact ⟨j + 1, _, by go_num, by go_num, HN, by omega, by omega⟩
          case measure => simp [intOf]; omega
        · have HJ := Lib.hid (joinR_big (by_ := by_) (l := l) (i := j + 1) (by omega) (by omega))
          clear e e1 e2 e3 HM
          go_wp2_with fail
          go_ret
          exact ⟨ret_st HJ.out.symm, Below.refl _ _⟩
      · obtain rfl : j = 0 := by omega
        rw [Nat.add_zero] at c0
        have e := congrArg List.length (jn_first by_ l hlt)
        rw [List.length_append] at e
        have e0 : (jnL by_ (l.take 0)).length = 0 := by simp [jnL, Lib.join_nil]
        have e2 : l[0].data.toList.length = l[0].size := rfl
        have e3 := HM.out
        obtain rfl : m = 0 := by omega
        have HN := Lib.hid (show l[0].size = (jnL by_ (l.take (0 + 1))).length by omega)
        clear e e0 e2 e3 HM
        go_wp2_with fail
        go_round
        case rel => exact ⟨1, _, by go_num, by go_num, HN, by omega, by omega⟩
        case measure => simp [intOf]; omega
    · obtain rfl : j = l.length := by omega
      have hC := hJ (by have := HM.out; rw [List.take_length] at this; omega)
      clear HM hJ
      go_wp2_with (go_at_call 72; refine hC.mono ?_; rintro e w1 ⟨rfl, hb1⟩)
      go_ret
      exact ⟨rfl, hb1⟩
end Go.Proofs.YtanmkeoieckebaaDoor
