/- Proved here: what Join returns, of the program and of the reference. Condition: the list and its texts fit. Proved here: rows of structs in memory: their cells, append of one struct, a store into one. Condition: the row fits. Proved here: facts for the printing of trees: how kids lie in memory, and what the printing of kids gives. No condition. Proved here: the level of a node; the printing of a kid out of the printing of its node; the printing of a list of kids; of the program and of the reference. Condition: the sizes fit; the listed table of white space lies in memory (the program's form alone). Proved here: the printing of a construct of words and kids, of the program and of the reference, the printing of the kids given. Condition: there are as many words as kids, the sizes fit. Proved here: facts for lists and words of kids. No condition. Proved here: the printing of a call, by the program and by the reference, the printing of the kids given. Condition: the sizes fit. Proved here: plain facts on the pairs of a case; append of one text in a region that draws its order; what holds through such a region. No condition. -/
import Derived.Test.YtljblaglfooclaaGreatDoorSs
import Derived.Test.YtljblaglfooclaaGreatDoorBuf
import Derived.Test.YtljblaglfooclaaGreatDoorSh
import Derived.Lib.Join
import Derived.Test.YtljblaglfooclaaGreatDoorGw
import Derived.Laws.MakeOwn
import Derived.Laws.OwnMore
import Derived.Maps.AppendAt
import Derived.Deep.AppendLies
import Derived.Deep.RegionLaw
import Derived.StillTailTactics
import Derived.Test.YtljblaglfooclaaGreatDoorPrP
import Derived.Test.YtljblaglfooclaaGreatDoorVh
import Derived.Test.YtljblaglfooclaaGreatDoorQc
import Derived.Test.YtljblaglfooclaaGreatDoorFm
import Derived.Test.YtljblaglfooclaaGreatDoorTq
import Derived.Test.YtljblaglfooclaaGreatDoorKc
namespace Go.Proofs.YtljblaglfooclaaGreatDoor
open Go.RowKit

/-- The texts with another one between them, as bytes. -/
def jnL (by_ : ByteArray) (l : List ByteArray) : List UInt8 := Lib.join (l.map (·.data.toList)) by_.data.toList
/-- What Join gives: nothing where it would be too long. -/
def joinR (by_ : ByteArray) (l : List ByteArray) : ByteArray := if (jnL by_ l).length ≤ 1048576 then ⟨(jnL by_ l).toArray⟩ else ⟨#[]⟩
theorem joinTail_snoc (sep x : List UInt8) (r : List (List UInt8)) : Lib.joinTail sep (r ++ [x]) = Lib.joinTail sep r ++ (sep ++ x) := by simp [Lib.joinTail]
theorem jnL_one (by_ x : ByteArray) : jnL by_ [x] = x.data.toList := Lib.join_one _ _
theorem jnL_snoc (by_ x : ByteArray) (l : List ByteArray) (h : 0 < l.length) : jnL by_ (l ++ [x]) = jnL by_ l ++ by_.data.toList ++ x.data.toList := by
  cases l with
  | nil => simp at h
  | cons a r =>
    unfold jnL
    rw [List.map_append, List.map_cons, List.cons_append, Lib.join_cons, Lib.join_cons, List.map_cons, List.map_nil, joinTail_snoc]
    simp only [List.append_assoc]
theorem jnL_len_le (by_ : ByteArray) (l : List ByteArray) (i : Nat) (h : i < l.length) : (jnL by_ (l.take i)).length ≤ (jnL by_ (l.take (i + 1))).length := by
  rw [List.take_succ_eq_append_getElem h]
  rcases Nat.eq_zero_or_pos i with rfl | hi
  · simp [jnL, Lib.join_nil]
  · rw [jnL_snoc _ _ _ (by simp; omega)]; simp only [List.length_append]; omega
theorem jnL_mono (by_ : ByteArray) (l : List ByteArray) : ∀ (d i : Nat), i + d ≤ l.length → (jnL by_ (l.take i)).length ≤ (jnL by_ (l.take (i + d))).length
  | 0, i, _ => Nat.le_refl _
  | d + 1, i, h => Nat.le_trans (jnL_mono by_ l d i (by omega)) (jnL_len_le by_ l (i + d) (by omega))
theorem jnL_all (by_ : ByteArray) (l : List ByteArray) {i : Nat} (h : i ≤ l.length) : (jnL by_ (l.take i)).length ≤ (jnL by_ l).length := by
  have := jnL_mono by_ l (l.length - i) i (by omega)
  rwa [show i + (l.length - i) = l.length by omega, List.take_length] at this
theorem joinR_big {by_ : ByteArray} {l : List ByteArray} {i : Nat} (h : i ≤ l.length) (hb : 1048576 < (jnL by_ (l.take i)).length) : joinR by_ l = ⟨#[]⟩ := by
  have := jnL_all by_ l h
  exact if_neg (by omega)
theorem joinR_yes {by_ : ByteArray} {l : List ByteArray} (h : (jnL by_ l).length ≤ 1048576) : joinR by_ l = ⟨(jnL by_ l).toArray⟩ := if_pos h
theorem ret_st {a b : ByteArray} (h : a = b) : Ending.returned (.string a) = .returned (.string b) := by rw [h]
theorem jn_first (by_ : ByteArray) (l : List ByteArray) (h : 0 < l.length) : jnL by_ (l.take 0) ++ l[0].data.toList = jnL by_ (l.take (0 + 1)) := by
  rw [List.take_succ_eq_append_getElem h]; simp [jnL, Lib.join_nil, Lib.join_one]
theorem jn_next (by_ : ByteArray) (l : List ByteArray) {j : Nat} (h : j < l.length) (hj : 0 < j) : jnL by_ (l.take j) ++ by_.data.toList ++ l[j].data.toList = jnL by_ (l.take (j + 1)) := by
  rw [List.take_succ_eq_append_getElem h, jnL_snoc _ _ _ (by simp; omega)]
theorem Buf.ofE {w : World} {B : Nat} {v : Value} {l m : List UInt8} (h : Buf w B v l) (e : l = m) : Buf w B v m := by subst e; exact h
theorem Buf.form {w : World} {B : Nat} {v : Value} {l : List UInt8} (h : Buf w B v l) : ∃ A cap, v = .slice A l.length cap := by
  rcases h.2 with ⟨rfl, h0⟩ | ⟨g, cap, cur, rfl, _⟩
  · exact ⟨none, 0, by rw [h0]⟩
  · exact ⟨_, _, rfl⟩
theorem Buf.formN {w : World} {B : Nat} {v : Value} {l : List UInt8} (h : Buf w B v l) : ∃ A n cap, v = .slice A n cap ∧ Hid (n = l.length) ∧ n ≤ l.length ∧ l.length ≤ n := by
  obtain ⟨A, cap, e⟩ := h.form
  exact ⟨A, _, cap, e, Lib.hid rfl, Nat.le_refl _, Nat.le_refl _⟩
set_option maxHeartbeats 2000000 in
theorem implJoined (l : List ByteArray) (by_ : ByteArray) (s : Value) (P : Nat → Prop) (w : World) (hK : Sr w P s l) (hP : ∀ b, P b → b < w.heap.size) (hl : l.length ≤ 1048576) (hj : (jnL by_ l).length ≤ 1048576) :
    Calls Tryz.prog 19 #[s, .string by_] w fun e w' => e = .returned (.string (joinR by_ l)) ∧ Below w.heap.size w w' := by
  have HJ := Lib.hid (joinR_yes hj)
  obtain ⟨A, cap, rfl⟩ := hK.form
  have hc : Calls Tryz.prog 36 #[.slice A l.length cap, .string by_] w fun e w' => e = .returned (.string (joinR by_ l)) ∧ Below w.heap.size w w' := by
    rw [HJ.out]
    rcases Nat.eq_zero_or_pos l.length with h0 | h0
    · have e : l = [] := List.eq_nil_of_length_eq_zero h0
      subst e
      exact (Go.Proofs.Tryz.strings_Join_none A cap by_ w).mono fun e w' ⟨he, hw⟩ => ⟨he, by rw [hw]; exact Below.refl _ _⟩
    · obtain ⟨b, o, rfl, hb, hcell⟩ := hK.row h0
      exact Go.Proofs.Tryz.strings_Join b o cap l by_ w (fun j x hx => by
        obtain ⟨hlt, rfl⟩ := List.getElem?_eq_some_iff.1 hx
        exact hcell j hlt) (hP b hb) (by omega) hK.cap_ (Nat.le_trans hj (by omega))
  go_enter Tryz.func19, Tryz.ntmps19
  go_wp2_with (go_at_call 36; refine hc.mono ?_; rintro e w1 ⟨rfl, hb1⟩)
  go_ret
  exact ⟨rfl, hb1⟩
end Go.Proofs.YtljblaglfooclaaGreatDoor

namespace Go.Proofs.YtljblaglfooclaaGreatDoor
open Go.RowKit
namespace X

/-- The quoted form of a set's text. -/
def cqB (t : ByteArray) : ByteArray := ⟨(quoteL 39 (csetL (newC t.data.toList).1.1 (newC t.data.toList).1.2)).toArray⟩
abbrev PN (x : X) : ByteArray := pN lvB cqB x
abbrev PK (r : List X) : List Kp := pK lvB cqB r
/-- Five cells from offset o on. -/
def VarO (w : World) (b o : Nat) (x : X) (s : Value) : Prop := w.cell? ⟨b, o, none⟩ = some (.int .i64 x.k) ∧ w.cell? ⟨b, o + 1, none⟩ = some (.string x.t) ∧ w.cell? ⟨b, o + 2, none⟩ = some (.int .i64 x.n) ∧ w.cell? ⟨b, o + 3, none⟩ = some (.int .i64 x.l) ∧ w.cell? ⟨b, o + 4, none⟩ = some s
theorem VarO.kept {w w' : World} {b o : Nat} {x : X} {s : Value} (h : VarO w b o x s) (hb : Below w.heap.size w w') : VarO w' b o x s :=
  ⟨kc1 hb h.1, kc1 hb h.2.1, kc1 hb h.2.2.1, kc1 hb h.2.2.2.1, kc1 hb h.2.2.2.2⟩
theorem VarO.below {w w' : World} {b o B : Nat} {x : X} {s : Value} (h : VarO w b o x s) (hb : Below B w w') (hB : b < B) : VarO w' b o x s :=
  ⟨(hb.cell (p := ⟨b, o, none⟩) hB).trans h.1, (hb.cell (p := ⟨b, o + 1, none⟩) hB).trans h.2.1, (hb.cell (p := ⟨b, o + 2, none⟩) hB).trans h.2.2.1, (hb.cell (p := ⟨b, o + 3, none⟩) hB).trans h.2.2.2.1, (hb.cell (p := ⟨b, o + 4, none⟩) hB).trans h.2.2.2.2⟩
theorem keepP1 {w w' : World} {g b o : Nat} {k : Int} {t : ByteArray} {n l : Int} {s : Value} {x0 : X} {s0 : Value} (h : Var w g k t n l s ∧ VarO w b o x0 s0) (hb : Below w.heap.size w w') :
    (w'.cell? ⟨g, 1, none⟩ = some (.string t) ∧ w'.cell? ⟨g, 4, none⟩ = some s) ∧ VarO w' b o x0 s0 := ⟨⟨(h.1.kept hb).2.1, (h.1.kept hb).2.2.2.2⟩, h.2.kept hb⟩
theorem keepP2 {w w' : World} {g b o : Nat} {k : Int} {t : ByteArray} {n l : Int} {s : Value} {x0 x1 : X} {s0 s1 : Value} (h : Var w g k t n l s ∧ VarO w b o x0 s0 ∧ VarO w b (o + 5) x1 s1) (hb : Below w.heap.size w w') :
    (w'.cell? ⟨g, 1, none⟩ = some (.string t) ∧ w'.cell? ⟨g, 4, none⟩ = some s) ∧ VarO w' b o x0 s0 ∧ VarO w' b (o + 5) x1 s1 := ⟨⟨(h.1.kept hb).2.1, (h.1.kept hb).2.2.2.2⟩, ⟨h.2.1.kept hb, h.2.2.kept hb⟩⟩
theorem keepP3 {w w' : World} {g b o : Nat} {k : Int} {t : ByteArray} {n l : Int} {s : Value} {x0 x1 x2 : X} {s0 s1 s2 : Value} (h : Var w g k t n l s ∧ VarO w b o x0 s0 ∧ VarO w b (o + 5) x1 s1 ∧ VarO w b (o + 10) x2 s2) (hb : Below w.heap.size w w') :
    (w'.cell? ⟨g, 1, none⟩ = some (.string t) ∧ w'.cell? ⟨g, 4, none⟩ = some s) ∧ VarO w' b o x0 s0 ∧ VarO w' b (o + 5) x1 s1 ∧ VarO w' b (o + 10) x2 s2 := ⟨⟨(h.1.kept hb).2.1, (h.1.kept hb).2.2.2.2⟩, ⟨h.2.1.kept hb, h.2.2.1.kept hb, h.2.2.2.kept hb⟩⟩
/-- The kids' row. -/
theorem Kc.row {w : World} {P : Nat → Prop} {r : List X} {A : Option Addr} {n cap : Nat} (h : Kc w P r (.slice A n cap)) (h0 : 0 < r.length) :
    ∃ b o, A = some ⟨b, o, none⟩ ∧ P b ∧ ∀ (i : Nat) (hi : i < r.length), ∃ A' cap', Kc w P r[i].r (.slice A' r[i].r.length cap') ∧ VarO w b (o + i * 5) r[i] (.slice A' r[i].r.length cap') := by
  obtain ⟨b, o, s, rfl, hb, -⟩ := h.at_ h0
  refine ⟨b, o, rfl, hb, fun i hi => ?_⟩
  obtain ⟨b', o', s', e, -, hk, c0, c1, c2, c3, c4⟩ := h.at_ hi
  have e' : b' = b ∧ o' = o := by
    simp only [Option.some.injEq, Addr.mk.injEq] at e
    exact ⟨e.1.symm, e.2.1.symm⟩
  obtain ⟨rfl, rfl⟩ := e'
  obtain ⟨A', cap', rfl⟩ := hk.form
  exact ⟨A', cap', hk, c0, c1, c2, c3, c4⟩
/-- What the printing of the kids gives, of the program. -/
def PrI (w : World) (P : Nat → Prop) (r : List X) : Prop := ∀ (j : Nat) (h : j < r.length) (need : Nat) (W : World) (A : Option Addr) (cap : Nat), Below w.heap.size w W → Kc w P r[j].r (.slice A r[j].r.length cap) →
  Calls Tryz.prog 20 #[.agg #[.int .i64 r[j].k, .string r[j].t, .int .i64 r[j].n, .int .i64 r[j].l, .slice A r[j].r.length cap], .int .i64 (need : Int)] W fun e w' => e = .returned (.string (atT need (kd (PK r) j))) ∧ Below W.heap.size W w'
/-- The same, of the reference. -/
def PrS (w : World) (P : Nat → Prop) (r : List X) : Prop := ∀ (j : Nat) (h : j < r.length) (need : Nat) (W : World) (A : Option Addr) (cap : Nat), Below w.heap.size w W → Kc w P r[j].r (.slice A r[j].r.length cap) →
  Calls Tryz.prog 14 #[.agg #[.int .i64 r[j].k, .string r[j].t, .int .i64 r[j].n, .int .i64 r[j].l, .slice A r[j].r.length cap], .int .i64 (need : Int)] W fun e w' => e = .returned (.string (atT need (kd (PK r) j))) ∧ Below W.heap.size W w'
end X
end Go.Proofs.YtljblaglfooclaaGreatDoor

namespace Go.Proofs.YtljblaglfooclaaGreatDoor
open Go.RowKit

set_option maxHeartbeats 2000000 in
theorem specJoined (l : List ByteArray) (by_ : ByteArray) (s : Value) (P : Nat → Prop) (w : World) (hK : Sr w P s l) (hP : ∀ b, P b → b < w.heap.size) (hl : l.length ≤ 1048576) (hby : by_.size ≤ 1048576) (hJ : (jnL by_ l).length ≤ 1048576) (hw : ∀ i (h : i < l.length), l[i].size ≤ 1048576) :
    Calls Tryz.prog 13 #[s, .string by_] w fun e w' => e = .returned (.string (joinR by_ l)) ∧ Below w.heap.size w w' := by
  obtain ⟨A, cap, rfl⟩ := hK.form
  go_enter Tryz.func13, Tryz.ntmps13
  go_wp2_with fail
  go_loopw [5, 6] (fun v i wr => ∃ (j : Nat) (acc : List UInt8), i = .int .i64 j ∧ Hid (acc = jnL by_ (l.take j)) ∧ Buf wr w.heap.size v acc ∧ acc.length ≤ 1048576 ∧ j ≤ l.length ∧ Below w.heap.size w wr)
    (fun _ i _ => l.length - (intOf i).toNat)
  case atStart => exact ⟨0, [], rfl, Lib.hid (by simp [jnL, Lib.join_nil]), Buf.lit w w.heap.size [] (Nat.le_refl _) (by simp [maxLen]), by simp, by omega, (Below.refl _ _).alloc (Nat.le_refl _) _⟩
  case round =>
    obtain ⟨j, acc, rfl, HM, hown, hacc, hj, hb⟩ := hrel
    have hsz := hb.size
    by_cases hlt : j < l.length
    · obtain ⟨b, o, rfl, hPb, c0⟩ := Sr.at_ (hK.below hb hP) hlt
      have hwj := hw j hlt
      have hPb' := hP b hPb
      have hall := jnL_all by_ l (i := j + 1) (by omega)
      by_cases hj0 : 0 < j
      · have HN := Lib.hid (jn_next by_ l hlt hj0)
        have HE := Lib.hid (show acc ++ by_.data.toList ++ l[j].data.toList = jnL by_ (l.take (j + 1)) by rw [HM.out]; exact HN.out)
        have hlen : (acc ++ by_.data.toList ++ l[j].data.toList).length = acc.length + by_.size + l[j].size := by rw [List.length_append, List.length_append]; rfl
        have hlen2 : (acc ++ by_.data.toList).length = acc.length + by_.size := by rw [List.length_append]; rfl
        have hle : (acc ++ by_.data.toList ++ l[j].data.toList).length ≤ 1048576 := by rw [HE.out]; omega
        clear hall
        go_upto_region 7 with (at_builtin; refine wpList_append_text rfl _ _ rfl rfl hown by_ rfl (by omega) (by omega) ?_; intro v1 w1 hown1 hb1; have hsz1 := hb1.size; have c1 := (hb1.cell (p := ⟨b, o + j, none⟩) (by simp; omega)).trans c0)
        go_wp2_with (at_builtin; refine wpList_append_text rfl _ _ rfl rfl hown1 l[j] rfl (by omega) (by omega) ?_; intro v2 w2 hown2 hb2)
        go_roundw
        case rel => exact ⟨j + 1, _, by go_num, HE, hown2, by omega, by omega, hb.trans (hb1.trans hb2)⟩
        case measure => simp [intOf]; omega
      · obtain rfl : j = 0 := by omega
        rw [Nat.add_zero] at c0
        have hacc0 : acc = [] := by rw [HM.out]; simp [jnL, Lib.join_nil]
        subst hacc0
        have HE := Lib.hid (show [] ++ l[0].data.toList = jnL by_ (l.take (0 + 1)) by rw [HM.out]; exact jn_first by_ l hlt)
        have hlen : ([] ++ l[0].data.toList : List UInt8).length = l[0].size := by rw [List.nil_append]; rfl
        clear hall
        go_wp2_with (at_builtin; refine wpList_append_text rfl _ _ rfl rfl hown l[0] rfl (by omega) (by omega) ?_; intro v2 w2 hown2 hb2)
        go_roundw
        case rel => exact ⟨1, _, by go_num, HE, hown2, by omega, by omega, hb.trans hb2⟩
        case measure => simp [intOf]; omega
    · obtain rfl : j = l.length := by omega
      have HN := Lib.hid (show joinR by_ l = ⟨acc.toArray⟩ by
        have e := HM.out
        rw [List.take_length] at e
        rw [joinR_yes (by rw [← e]; exact hacc), ← e])
      have hcv := run_text hown
      clear HM
      go_wp2_with fail
      go_ret
      exact ⟨ret_st HN.out.symm, hb⟩
namespace X
theorem lvl_8 (t : ByteArray) : lvlT lvB 8 t = lvB t := if_pos rfl
theorem lvl_9 (t : ByteArray) : lvlT lvB 9 t = 4 := rfl
theorem lvl_12 {k : Int} (t : ByteArray) (h : k = 7 ∨ k = 27) : lvlT lvB k t = 12 := by rcases h with rfl | rfl <;> rfl
theorem lvl_0 {k : Int} (t : ByteArray) (h : (15 ≤ k ∧ k ≤ 22) ∨ k = 24 ∨ k = 26) : lvlT lvB k t = 0 := by
  rw [lvlT, if_neg (by omega), if_neg (by omega), if_neg (by omega), if_pos h]
theorem lvl_13 {k : Int} (t : ByteArray) (h : k ≠ 8 ∧ k ≠ 9 ∧ k ≠ 7 ∧ k ≠ 27 ∧ ¬ ((15 ≤ k ∧ k ≤ 22) ∨ k = 24 ∨ k = 26)) : lvlT lvB k t = 13 := by
  rw [lvlT, if_neg (by omega), if_neg (by omega), if_neg (by omega), if_neg h.2.2.2.2]
theorem lvl_bd (k : Int) (t : ByteArray) : lvlT lvB k t ≤ 13 := by
  unfold lvlT
  have := lvB_bd t
  repeat' split
  all_goals omega
theorem nb {k c : Int} (h : k ≠ c) : (k == c) = false := by rw [beq_eq_false_iff_ne]; exact h
theorem joT_R (by_ : List UInt8) (L : List ByteArray) (h : (joT by_ L).size ≤ 1048576) : joinR ⟨by_.toArray⟩ L = joT by_ L ∧ (jnL ⟨by_.toArray⟩ L).length ≤ 1048576 := by
  have e : jnL ⟨by_.toArray⟩ L = Lib.join (L.map (·.data.toList)) by_ := by simp [jnL]
  have h2 : (jnL ⟨by_.toArray⟩ L).length ≤ 1048576 := by
    rw [e]
    unfold joT at h
    rw [size1] at h
    exact h
  exact ⟨by rw [joinR_yes h2, e]; rfl, h2⟩
set_option maxHeartbeats 4000000 in
theorem implLevel8 (k : Int) (t : ByteArray) (n l : Int) (s : Value) (w : World) (hT : Lib.TabIs Tryz.prog w "strings.asciiSpace" .u8 Lib.asciiSpaceTab) :
    Calls Tryz.prog 38 #[.agg #[.int .i64 k, .string t, .int .i64 n, .int .i64 l, s]] w fun e w' => e = .returned (.int .i64 ((lvlT lvB k t : Nat) : Int)) ∧ Below w.heap.size w w' := by
  by_cases h8 : k = 8
  · subst h8
    obtain ⟨L, hL⟩ : ∃ L, L = lvB t := ⟨_, rfl⟩
    have hBl : ∀ W : World, Below w.heap.size w W → Calls Tryz.prog 68 #[.string t] W fun e w' => e = .returned (.int .i64 (L : Int)) ∧ Below W.heap.size W w' := fun W hW => by rw [hL]; exact implLevel t W (tab_kept hT hW)
    have HN := Lib.hid (show lvlT lvB 8 t = L by rw [hL]; exact lvl_8 t)
    clear hL hT
    go_enter Tryz.func38, Tryz.ntmps38
    go_wp2_with (go_at_call 68; refine (hBl _ (by repeat (first | exact Below.refl _ _ | refine Below.drew ?_ | refine Below.setCell ?_ (by (try simp); try omega) _ | refine Below.alloc ?_ (by (try simp); try omega) _))).mono ?_; rintro e w1 ⟨rfl, hb1⟩)
    go_ret
    exact ⟨ret_i HN.out.symm, Below.trans (by repeat (first | exact Below.refl _ _ | refine Below.drew ?_ | refine Below.setCell ?_ (by (try simp); try omega) _ | refine Below.alloc ?_ (by (try simp); try omega) _)) (hb1.mono (by simp))⟩
  clear hT
  have b8 := nb h8
  by_cases h9 : k = 9
  · subst h9
    have HN := Lib.hid (lvl_9 t)
    go_enter Tryz.func38, Tryz.ntmps38
    go_wp2_with fail
    go_ret
    exact ⟨ret_i HN.out.symm, by repeat (first | exact Below.refl _ _ | refine Below.drew ?_ | refine Below.setCell ?_ (by (try simp); try omega) _ | refine Below.alloc ?_ (by (try simp); try omega) _)⟩
  have b9 := nb h9
  by_cases h7 : k = 7
  · subst h7
    have HN := Lib.hid (lvl_12 (k := 7) t (.inl rfl))
    go_enter Tryz.func38, Tryz.ntmps38
    go_wp2_with fail
    go_ret
    exact ⟨ret_i HN.out.symm, by repeat (first | exact Below.refl _ _ | refine Below.drew ?_ | refine Below.setCell ?_ (by (try simp); try omega) _ | refine Below.alloc ?_ (by (try simp); try omega) _)⟩
  have b7 := nb h7
  by_cases h27 : k = 27
  · subst h27
    have HN := Lib.hid (lvl_12 (k := 27) t (.inr rfl))
    go_enter Tryz.func38, Tryz.ntmps38
    go_wp2_with fail
    go_ret
    exact ⟨ret_i HN.out.symm, by repeat (first | exact Below.refl _ _ | refine Below.drew ?_ | refine Below.setCell ?_ (by (try simp); try omega) _ | refine Below.alloc ?_ (by (try simp); try omega) _)⟩
  have b27 := nb h27
  by_cases h15 : k = 15
  · subst h15
    have HN := Lib.hid (lvl_0 (k := 15) t (by omega))
    go_enter Tryz.func38, Tryz.ntmps38
    go_wp2_with fail
    go_ret
    exact ⟨ret_i HN.out.symm, by repeat (first | exact Below.refl _ _ | refine Below.drew ?_ | refine Below.setCell ?_ (by (try simp); try omega) _ | refine Below.alloc ?_ (by (try simp); try omega) _)⟩
  have b15 := nb h15
  by_cases h16 : k = 16
  · subst h16
    have HN := Lib.hid (lvl_0 (k := 16) t (by omega))
    go_enter Tryz.func38, Tryz.ntmps38
    go_wp2_with fail
    go_ret
    exact ⟨ret_i HN.out.symm, by repeat (first | exact Below.refl _ _ | refine Below.drew ?_ | refine Below.setCell ?_ (by (try simp); try omega) _ | refine Below.alloc ?_ (by (try simp); try omega) _)⟩
  have b16 := nb h16
  by_cases h17 : k = 17
  · subst h17
    have HN := Lib.hid (lvl_0 (k := 17) t (by omega))
    go_enter Tryz.func38, Tryz.ntmps38
    go_wp2_with fail
    go_ret
    exact ⟨ret_i HN.out.symm, by repeat (first | exact Below.refl _ _ | refine Below.drew ?_ | refine Below.setCell ?_ (by (try simp); try omega) _ | refine Below.alloc ?_ (by (try simp); try omega) _)⟩
  have b17 := nb h17
  by_cases h18 : k = 18
  · subst h18
    have HN := Lib.hid (lvl_0 (k := 18) t (by omega))
    go_enter Tryz.func38, Tryz.ntmps38
    go_wp2_with fail
    go_ret
    exact ⟨ret_i HN.out.symm, by repeat (first | exact Below.refl _ _ | refine Below.drew ?_ | refine Below.setCell ?_ (by (try simp); try omega) _ | refine Below.alloc ?_ (by (try simp); try omega) _)⟩
  have b18 := nb h18
  by_cases h19 : k = 19
  · subst h19
    have HN := Lib.hid (lvl_0 (k := 19) t (by omega))
    go_enter Tryz.func38, Tryz.ntmps38
    go_wp2_with fail
    go_ret
    exact ⟨ret_i HN.out.symm, by repeat (first | exact Below.refl _ _ | refine Below.drew ?_ | refine Below.setCell ?_ (by (try simp); try omega) _ | refine Below.alloc ?_ (by (try simp); try omega) _)⟩
  have b19 := nb h19
  by_cases h20 : k = 20
  · subst h20
    have HN := Lib.hid (lvl_0 (k := 20) t (by omega))
    go_enter Tryz.func38, Tryz.ntmps38
    go_wp2_with fail
    go_ret
    exact ⟨ret_i HN.out.symm, by repeat (first | exact Below.refl _ _ | refine Below.drew ?_ | refine Below.setCell ?_ (by (try simp); try omega) _ | refine Below.alloc ?_ (by (try simp); try omega) _)⟩
  have b20 := nb h20
  by_cases h21 : k = 21
  · subst h21
    have HN := Lib.hid (lvl_0 (k := 21) t (by omega))
    go_enter Tryz.func38, Tryz.ntmps38
    go_wp2_with fail
    go_ret
    exact ⟨ret_i HN.out.symm, by repeat (first | exact Below.refl _ _ | refine Below.drew ?_ | refine Below.setCell ?_ (by (try simp); try omega) _ | refine Below.alloc ?_ (by (try simp); try omega) _)⟩
  have b21 := nb h21
  by_cases h22 : k = 22
  · subst h22
    have HN := Lib.hid (lvl_0 (k := 22) t (by omega))
    go_enter Tryz.func38, Tryz.ntmps38
    go_wp2_with fail
    go_ret
    exact ⟨ret_i HN.out.symm, by repeat (first | exact Below.refl _ _ | refine Below.drew ?_ | refine Below.setCell ?_ (by (try simp); try omega) _ | refine Below.alloc ?_ (by (try simp); try omega) _)⟩
  have b22 := nb h22
  by_cases h24 : k = 24
  · subst h24
    have HN := Lib.hid (lvl_0 (k := 24) t (by omega))
    go_enter Tryz.func38, Tryz.ntmps38
    go_wp2_with fail
    go_ret
    exact ⟨ret_i HN.out.symm, by repeat (first | exact Below.refl _ _ | refine Below.drew ?_ | refine Below.setCell ?_ (by (try simp); try omega) _ | refine Below.alloc ?_ (by (try simp); try omega) _)⟩
  have b24 := nb h24
  by_cases h26 : k = 26
  · subst h26
    have HN := Lib.hid (lvl_0 (k := 26) t (by omega))
    go_enter Tryz.func38, Tryz.ntmps38
    go_wp2_with fail
    go_ret
    exact ⟨ret_i HN.out.symm, by repeat (first | exact Below.refl _ _ | refine Below.drew ?_ | refine Below.setCell ?_ (by (try simp); try omega) _ | refine Below.alloc ?_ (by (try simp); try omega) _)⟩
  have b26 := nb h26
  have HN := Lib.hid (lvl_13 (k := k) t ⟨h8, h9, h7, h27, by omega⟩)
  clear h8 h9 h7 h27 h15 h16 h17 h18 h19 h20 h21 h22 h24 h26
  go_enter Tryz.func38, Tryz.ntmps38
  go_wp2_with fail
  go_ret
  exact ⟨ret_i HN.out.symm, by repeat (first | exact Below.refl _ _ | refine Below.drew ?_ | refine Below.setCell ?_ (by (try simp); try omega) _ | refine Below.alloc ?_ (by (try simp); try omega) _)⟩
set_option maxHeartbeats 4000000 in
theorem implAt8 (k : Int) (t : ByteArray) (n l : Int) (s : Value) (need : Nat) (Z : ByteArray) (w : World) (hT : Lib.TabIs Tryz.prog w "strings.asciiSpace" .u8 Lib.asciiSpaceTab) (hZ : Z.size ≤ 1000000000)
    (hN : ∀ W : World, Below w.heap.size w W → Calls Tryz.prog 37 #[.agg #[.int .i64 k, .string t, .int .i64 n, .int .i64 l, s]] W fun e w' => e = .returned (.string Z) ∧ Below W.heap.size W w') :
    Calls Tryz.prog 20 #[.agg #[.int .i64 k, .string t, .int .i64 n, .int .i64 l, s], .int .i64 (need : Int)] w fun e w' => e = .returned (.string (atT need (k, lvlT lvB k t, Z))) ∧ Below w.heap.size w w' := by
  obtain ⟨L, hL⟩ : ∃ L, L = lvlT lvB k t := ⟨_, rfl⟩
  have hLb : L ≤ 13 := by rw [hL]; exact lvl_bd k t
  have hLv : ∀ W : World, Below w.heap.size w W → Calls Tryz.prog 38 #[.agg #[.int .i64 k, .string t, .int .i64 n, .int .i64 l, s]] W fun e w' => e = .returned (.int .i64 (L : Int)) ∧ Below W.heap.size W w' := fun W hW => by rw [hL]; exact implLevel8 k t n l s W (tab_kept hT hW)
  rw [← hL]
  clear hL hT
  have hv := Var.new w k t n l s 46
  have hbb : Below w.heap.size w (w.alloc (.cells #[.int .i64 k, .string t, .int .i64 n, .int .i64 l, s] 46)) := by repeat (first | exact Below.refl _ _ | refine Below.drew ?_ | refine Below.setCell ?_ (by (try simp); try omega) _ | refine Below.alloc ?_ (by (try simp); try omega) _)
  have hzz := hbb.size
  have g0 : ¬ 9223372036854775807 < 1 + Z.size := by omega
  have g1 : ¬ 9223372036854775807 < 1 + Z.size + 1 := by omega
  by_cases hlt : L < need
  · have HN := Lib.hid (show atT need (k, L, Z) = ⟨#[40]⟩ ++ Z ++ ⟨#[41]⟩ from if_pos hlt)
    go_enter Tryz.func20, Tryz.ntmps20
    go_wp2_with (first
      | (go_at_call 37; refine (hN _ (by repeat (first | exact hbb | refine Below.drew ?_ | refine Below.setCell ?_ (by (try simp); try omega) _ | refine Below.alloc ?_ (by (try simp); try omega) _))).mono ?_; rintro e w1 ⟨rfl, hb1⟩; have hv := Var.kept (g := w.heap.size) (k := k) (t := t) (n := n) (l := l) (s := s) (by repeat (first | exact hv | exact X.Var.new _ _ _ _ _ _ _ | refine X.Var.drew ?_ | refine X.Var.alloc ?_ _)) hb1; have hbb := growT (w := w) (by repeat (first | exact hbb | refine Below.drew ?_ | refine Below.setCell ?_ (by (try simp); try omega) _ | refine Below.alloc ?_ (by (try simp); try omega) _)) hb1; have hzz := hbb.size; obtain ⟨a0, a1, a2, a3, a4⟩ := id hv)
      | (go_at_call 38; refine (hLv _ (by repeat (first | exact hbb | refine Below.drew ?_ | refine Below.setCell ?_ (by (try simp); try omega) _ | refine Below.alloc ?_ (by (try simp); try omega) _))).mono ?_; rintro e w2 ⟨rfl, hb2⟩; have hv := Var.kept (g := w.heap.size) (k := k) (t := t) (n := n) (l := l) (s := s) (by repeat (first | exact hv | exact X.Var.new _ _ _ _ _ _ _ | refine X.Var.drew ?_ | refine X.Var.alloc ?_ _)) hb2; have hbb := growT (w := w) (by repeat (first | exact hbb | refine Below.drew ?_ | refine Below.setCell ?_ (by (try simp); try omega) _ | refine Below.alloc ?_ (by (try simp); try omega) _)) hb2; have hzz := hbb.size; obtain ⟨a0, a1, a2, a3, a4⟩ := id hv))
    go_ret
    exact ⟨ret_s HN.out.symm, hbb⟩
  · have HN := Lib.hid (show atT need (k, L, Z) = Z from if_neg hlt)
    go_enter Tryz.func20, Tryz.ntmps20
    go_wp2_with (first
      | (go_at_call 37; refine (hN _ (by repeat (first | exact hbb | refine Below.drew ?_ | refine Below.setCell ?_ (by (try simp); try omega) _ | refine Below.alloc ?_ (by (try simp); try omega) _))).mono ?_; rintro e w1 ⟨rfl, hb1⟩; have hv := Var.kept (g := w.heap.size) (k := k) (t := t) (n := n) (l := l) (s := s) (by repeat (first | exact hv | exact X.Var.new _ _ _ _ _ _ _ | refine X.Var.drew ?_ | refine X.Var.alloc ?_ _)) hb1; have hbb := growT (w := w) (by repeat (first | exact hbb | refine Below.drew ?_ | refine Below.setCell ?_ (by (try simp); try omega) _ | refine Below.alloc ?_ (by (try simp); try omega) _)) hb1; have hzz := hbb.size; obtain ⟨a0, a1, a2, a3, a4⟩ := id hv)
      | (go_at_call 38; refine (hLv _ (by repeat (first | exact hbb | refine Below.drew ?_ | refine Below.setCell ?_ (by (try simp); try omega) _ | refine Below.alloc ?_ (by (try simp); try omega) _))).mono ?_; rintro e w2 ⟨rfl, hb2⟩; have hv := Var.kept (g := w.heap.size) (k := k) (t := t) (n := n) (l := l) (s := s) (by repeat (first | exact hv | exact X.Var.new _ _ _ _ _ _ _ | refine X.Var.drew ?_ | refine X.Var.alloc ?_ _)) hb2; have hbb := growT (w := w) (by repeat (first | exact hbb | refine Below.drew ?_ | refine Below.setCell ?_ (by (try simp); try omega) _ | refine Below.alloc ?_ (by (try simp); try omega) _)) hb2; have hzz := hbb.size; obtain ⟨a0, a1, a2, a3, a4⟩ := id hv))
    go_ret
    exact ⟨ret_s HN.out.symm, hbb⟩
set_option maxRecDepth 20000 in
set_option maxHeartbeats 4000000 in
theorem implAll8 (by_ : List UInt8) (r : List X) (A : Option Addr) (cap : Nat) (w : World) (P : Nat → Prop) (hK : Kc w P r (.slice A r.length cap)) (hP : ∀ b, P b → b < w.heap.size) (L : List ByteArray) (hLl : L.length = r.length) (hl : r.length ≤ 1000) (_hby : by_.length ≤ 10)
    (hC : ∀ (j : Nat) (h : j < r.length) (W : World) (A1 : Option Addr) (cap1 : Nat), Below w.heap.size w W → Kc w P r[j].r (.slice A1 r[j].r.length cap1) → Calls Tryz.prog 20 #[.agg #[.int .i64 r[j].k, .string r[j].t, .int .i64 r[j].n, .int .i64 r[j].l, .slice A1 r[j].r.length cap1], .int .i64 0] W fun e w' => e = .returned (.string (L[j]'(by omega))) ∧ Below W.heap.size W w')
    (hz : (joT by_ L).size ≤ 1048576) (hzi : ∀ j (h : j < L.length), L[j].size ≤ 1048576) :
    Calls Tryz.prog 69 #[.slice A r.length cap, .string ⟨by_.toArray⟩] w fun e w' => e = .returned (.string (joT by_ L)) ∧ Below w.heap.size w w' := by
  obtain ⟨hjr, hjl⟩ := joT_R by_ L hz
  have HS0 := Lib.hid (SBuf.lit w w.heap.size [] (Nat.le_refl _) (by simp [maxLen]))
  have HJ := Lib.hid hjr
  clear hjr
  go_enter Tryz.func69, Tryz.ntmps69
  go_wp2_with fail
  go_loopw [5, 11] (fun v i wr => ∃ (j : Nat) (acc : List ByteArray), i = .int .i64 j ∧ j ≤ r.length ∧ acc.length = j ∧ Hid (acc = L.take j) ∧ SBuf wr w.heap.size v acc ∧ Below w.heap.size w wr)
    (fun _ i _ => r.length - (intOf i).toNat)
  case atStart => exact ⟨0, [], rfl, by omega, rfl, Lib.hid rfl, HS0.out, (Below.refl _ _).alloc (Nat.le_refl _) _⟩
  case round =>
    obtain ⟨j, acc, rfl, hj, hacc, HM, hown, hb⟩ := hrel
    have hsz := hb.size
    obtain ⟨Av, capv, rfl⟩ := hown.form
    rw [hacc] at hown ⊢
    by_cases hlt : j < r.length
    · obtain ⟨b, o, s', rfl, hPb, hkid, c0, c1, c2, c3, c4⟩ := Kc.at_ (hK.below hb hP) hlt
      obtain ⟨b', o', s2, e2, -, hkid2, -⟩ := Kc.at_ hK hlt
      have hbw := hP b hPb
      obtain ⟨A1, cap1, rfl⟩ := hkid.form
      have hkw : Kc w P r[j].r (.slice A1 r[j].r.length cap1) := by
        obtain ⟨b3, o3, s3, e3, -, hk3, -, -, -, -, d4⟩ := Kc.at_ hK hlt
        have e4 : b3 = b ∧ o3 = o := by
          simp only [Option.some.injEq, Addr.mk.injEq] at e3
          exact ⟨e3.1.symm, e3.2.1.symm⟩
        obtain ⟨rfl, rfl⟩ := e4
        have h5 := (hb.cell (p := ⟨b3, o3 + j * 5 + 4, none⟩) hbw).trans d4
        rw [c4] at h5
        obtain rfl := Option.some.inj h5
        exact hk3
      have hjL : j < L.length := by rw [hLl]; exact hlt
      have ij : (j : Int) < (r.length : Int) := by omega
      have hCj : ∀ W : World, Below w.heap.size w W → Calls Tryz.prog 20 #[.agg #[.int .i64 r[j].k, .string r[j].t, .int .i64 r[j].n, .int .i64 r[j].l, .slice A1 r[j].r.length cap1], .int .i64 0] W fun e w' => e = .returned (.string (L[j]'hjL)) ∧ Below W.heap.size W w' := fun W hW => hC j hlt W A1 cap1 hW hkw
      have hqz := hzi j hjL
      have HN := Lib.hid (show acc ++ [L[j]'hjL] = L.take (j + 1) by rw [HM.out, List.take_succ_eq_append_getElem hjL])
      generalize (L[j]'hjL) = q at hCj hqz HN
      clear HM e2 hkid2 hkid hkw
      have HO := Lib.hid hown
      go_wp2_with (first
        | (go_at_call 20; refine (hCj _ (hb.trans (Below.mono (by repeat (first | exact Below.refl _ _ | refine Below.drew ?_ | refine Below.setCell ?_ (by (try simp); try omega) _ | refine Below.alloc ?_ (by (try simp); try omega) _)) hsz))).mono ?_; rintro e w4 ⟨rfl, hb4⟩; have hbr4 : Below wr.heap.size wr w4 := Below.trans (by repeat (first | exact Below.refl _ _ | refine Below.drew ?_ | refine Below.setCell ?_ (by (try simp); try omega) _ | refine Below.alloc ?_ (by (try simp); try omega) _)) (hb4.mono (by simp)); have ow := SBuf.kept HO.out hbr4; have hbb4 := hb.trans (hbr4.mono hsz); have hs4 := hbb4.size)
        | (at_builtin; refine wpList_appendS_lit rfl _ _ rfl rfl ow 1 rfl (by simp) [q] rfl rfl (by omega) (by omega) ?_; intro v5 w5 hown5 hb5))
      go_roundw
      case rel => exact ⟨j + 1, acc ++ [q], by go_num, by omega, by simp; omega, HN, hown5, hbb4.trans hb5⟩
      case measure => simp [intOf]; omega
    · obtain rfl : j = r.length := by omega
      have hJ : ∀ W : World, Below wr.heap.size wr W → Calls Tryz.prog 19 #[.slice Av r.length capv, .string ⟨by_.toArray⟩] W fun e w' => e = .returned (.string (joT by_ L)) ∧ Below W.heap.size W w' := fun W hW => by
        have e : acc = L := by rw [HM.out, ← hLl, List.take_length]
        have h := implJoined acc ⟨by_.toArray⟩ (.slice Av r.length capv) (· < W.heap.size) W (hown.sr_in hW) (fun _ h => h) (by omega) (by rw [e]; exact hjl)
        rw [e, HJ.out] at h
        exact h
      clear HM hlt
      go_wp2_with (go_at_call 19; refine (hJ _ (Below.refl _ _)).mono ?_; rintro e w5 ⟨rfl, hb5⟩)
      go_ret
      exact ⟨rfl, hb.trans (hb5.mono hsz)⟩
set_option maxHeartbeats 4000000 in
theorem specLevel8 (k : Int) (t : ByteArray) (n l : Int) (s : Value) (w : World) :
    Calls Tryz.prog 29 #[.agg #[.int .i64 k, .string t, .int .i64 n, .int .i64 l, s]] w fun e w' => e = .returned (.int .i64 ((lvlT lvB k t : Nat) : Int)) ∧ Below w.heap.size w w' := by
  by_cases h8 : k = 8
  · subst h8
    obtain ⟨L, hL⟩ : ∃ L, L = lvB t := ⟨_, rfl⟩
    have hBl : ∀ W : World, Below w.heap.size w W → Calls Tryz.prog 47 #[.string t] W fun e w' => e = .returned (.int .i64 (L : Int)) ∧ Below W.heap.size W w' := fun W hW => by rw [hL]; exact specLevel t W
    have HN := Lib.hid (show lvlT lvB 8 t = L by rw [hL]; exact lvl_8 t)
    clear hL 
    go_enter Tryz.func29, Tryz.ntmps29
    go_wp2_with (go_at_call 47; refine (hBl _ (by repeat (first | exact Below.refl _ _ | refine Below.drew ?_ | refine Below.setCell ?_ (by (try simp); try omega) _ | refine Below.alloc ?_ (by (try simp); try omega) _))).mono ?_; rintro e w1 ⟨rfl, hb1⟩)
    go_ret
    exact ⟨ret_i HN.out.symm, Below.trans (by repeat (first | exact Below.refl _ _ | refine Below.drew ?_ | refine Below.setCell ?_ (by (try simp); try omega) _ | refine Below.alloc ?_ (by (try simp); try omega) _)) (hb1.mono (by simp))⟩
  have b8 := nb h8
  by_cases h9 : k = 9
  · subst h9
    have HN := Lib.hid (lvl_9 t)
    go_enter Tryz.func29, Tryz.ntmps29
    go_wp2_with fail
    go_ret
    exact ⟨ret_i HN.out.symm, by repeat (first | exact Below.refl _ _ | refine Below.drew ?_ | refine Below.setCell ?_ (by (try simp); try omega) _ | refine Below.alloc ?_ (by (try simp); try omega) _)⟩
  have b9 := nb h9
  by_cases h7 : k = 7
  · subst h7
    have HN := Lib.hid (lvl_12 (k := 7) t (.inl rfl))
    go_enter Tryz.func29, Tryz.ntmps29
    go_wp2_with fail
    go_ret
    exact ⟨ret_i HN.out.symm, by repeat (first | exact Below.refl _ _ | refine Below.drew ?_ | refine Below.setCell ?_ (by (try simp); try omega) _ | refine Below.alloc ?_ (by (try simp); try omega) _)⟩
  have b7 := nb h7
  by_cases h27 : k = 27
  · subst h27
    have HN := Lib.hid (lvl_12 (k := 27) t (.inr rfl))
    go_enter Tryz.func29, Tryz.ntmps29
    go_wp2_with fail
    go_ret
    exact ⟨ret_i HN.out.symm, by repeat (first | exact Below.refl _ _ | refine Below.drew ?_ | refine Below.setCell ?_ (by (try simp); try omega) _ | refine Below.alloc ?_ (by (try simp); try omega) _)⟩
  have b27 := nb h27
  by_cases h15 : k = 15
  · subst h15
    have HN := Lib.hid (lvl_0 (k := 15) t (by omega))
    go_enter Tryz.func29, Tryz.ntmps29
    go_wp2_with fail
    go_ret
    exact ⟨ret_i HN.out.symm, by repeat (first | exact Below.refl _ _ | refine Below.drew ?_ | refine Below.setCell ?_ (by (try simp); try omega) _ | refine Below.alloc ?_ (by (try simp); try omega) _)⟩
  have b15 := nb h15
  by_cases h16 : k = 16
  · subst h16
    have HN := Lib.hid (lvl_0 (k := 16) t (by omega))
    go_enter Tryz.func29, Tryz.ntmps29
    go_wp2_with fail
    go_ret
    exact ⟨ret_i HN.out.symm, by repeat (first | exact Below.refl _ _ | refine Below.drew ?_ | refine Below.setCell ?_ (by (try simp); try omega) _ | refine Below.alloc ?_ (by (try simp); try omega) _)⟩
  have b16 := nb h16
  by_cases h17 : k = 17
  · subst h17
    have HN := Lib.hid (lvl_0 (k := 17) t (by omega))
    go_enter Tryz.func29, Tryz.ntmps29
    go_wp2_with fail
    go_ret
    exact ⟨ret_i HN.out.symm, by repeat (first | exact Below.refl _ _ | refine Below.drew ?_ | refine Below.setCell ?_ (by (try simp); try omega) _ | refine Below.alloc ?_ (by (try simp); try omega) _)⟩
  have b17 := nb h17
  by_cases h18 : k = 18
  · subst h18
    have HN := Lib.hid (lvl_0 (k := 18) t (by omega))
    go_enter Tryz.func29, Tryz.ntmps29
    go_wp2_with fail
    go_ret
    exact ⟨ret_i HN.out.symm, by repeat (first | exact Below.refl _ _ | refine Below.drew ?_ | refine Below.setCell ?_ (by (try simp); try omega) _ | refine Below.alloc ?_ (by (try simp); try omega) _)⟩
  have b18 := nb h18
  by_cases h19 : k = 19
  · subst h19
    have HN := Lib.hid (lvl_0 (k := 19) t (by omega))
    go_enter Tryz.func29, Tryz.ntmps29
    go_wp2_with fail
    go_ret
    exact ⟨ret_i HN.out.symm, by repeat (first | exact Below.refl _ _ | refine Below.drew ?_ | refine Below.setCell ?_ (by (try simp); try omega) _ | refine Below.alloc ?_ (by (try simp); try omega) _)⟩
  have b19 := nb h19
  by_cases h20 : k = 20
  · subst h20
    have HN := Lib.hid (lvl_0 (k := 20) t (by omega))
    go_enter Tryz.func29, Tryz.ntmps29
    go_wp2_with fail
    go_ret
    exact ⟨ret_i HN.out.symm, by repeat (first | exact Below.refl _ _ | refine Below.drew ?_ | refine Below.setCell ?_ (by (try simp); try omega) _ | refine Below.alloc ?_ (by (try simp); try omega) _)⟩
  have b20 := nb h20
  by_cases h21 : k = 21
  · subst h21
    have HN := Lib.hid (lvl_0 (k := 21) t (by omega))
    go_enter Tryz.func29, Tryz.ntmps29
    go_wp2_with fail
    go_ret
    exact ⟨ret_i HN.out.symm, by repeat (first | exact Below.refl _ _ | refine Below.drew ?_ | refine Below.setCell ?_ (by (try simp); try omega) _ | refine Below.alloc ?_ (by (try simp); try omega) _)⟩
  have b21 := nb h21
  by_cases h22 : k = 22
  · subst h22
    have HN := Lib.hid (lvl_0 (k := 22) t (by omega))
    go_enter Tryz.func29, Tryz.ntmps29
    go_wp2_with fail
    go_ret
    exact ⟨ret_i HN.out.symm, by repeat (first | exact Below.refl _ _ | refine Below.drew ?_ | refine Below.setCell ?_ (by (try simp); try omega) _ | refine Below.alloc ?_ (by (try simp); try omega) _)⟩
  have b22 := nb h22
  by_cases h24 : k = 24
  · subst h24
    have HN := Lib.hid (lvl_0 (k := 24) t (by omega))
    go_enter Tryz.func29, Tryz.ntmps29
    go_wp2_with fail
    go_ret
    exact ⟨ret_i HN.out.symm, by repeat (first | exact Below.refl _ _ | refine Below.drew ?_ | refine Below.setCell ?_ (by (try simp); try omega) _ | refine Below.alloc ?_ (by (try simp); try omega) _)⟩
  have b24 := nb h24
  by_cases h26 : k = 26
  · subst h26
    have HN := Lib.hid (lvl_0 (k := 26) t (by omega))
    go_enter Tryz.func29, Tryz.ntmps29
    go_wp2_with fail
    go_ret
    exact ⟨ret_i HN.out.symm, by repeat (first | exact Below.refl _ _ | refine Below.drew ?_ | refine Below.setCell ?_ (by (try simp); try omega) _ | refine Below.alloc ?_ (by (try simp); try omega) _)⟩
  have b26 := nb h26
  have HN := Lib.hid (lvl_13 (k := k) t ⟨h8, h9, h7, h27, by omega⟩)
  clear h8 h9 h7 h27 h15 h16 h17 h18 h19 h20 h21 h22 h24 h26
  go_enter Tryz.func29, Tryz.ntmps29
  go_wp2_with fail
  go_ret
  exact ⟨ret_i HN.out.symm, by repeat (first | exact Below.refl _ _ | refine Below.drew ?_ | refine Below.setCell ?_ (by (try simp); try omega) _ | refine Below.alloc ?_ (by (try simp); try omega) _)⟩
set_option maxHeartbeats 4000000 in
theorem specAt8 (k : Int) (t : ByteArray) (n l : Int) (s : Value) (need : Nat) (Z : ByteArray) (w : World) (hZ : Z.size ≤ 1000000000)
    (hN : ∀ W : World, Below w.heap.size w W → Calls Tryz.prog 30 #[.agg #[.int .i64 k, .string t, .int .i64 n, .int .i64 l, s]] W fun e w' => e = .returned (.string Z) ∧ Below W.heap.size W w') :
    Calls Tryz.prog 14 #[.agg #[.int .i64 k, .string t, .int .i64 n, .int .i64 l, s], .int .i64 (need : Int)] w fun e w' => e = .returned (.string (atT need (k, lvlT lvB k t, Z))) ∧ Below w.heap.size w w' := by
  obtain ⟨L, hL⟩ : ∃ L, L = lvlT lvB k t := ⟨_, rfl⟩
  have hLb : L ≤ 13 := by rw [hL]; exact lvl_bd k t
  have hLv : ∀ W : World, Below w.heap.size w W → Calls Tryz.prog 29 #[.agg #[.int .i64 k, .string t, .int .i64 n, .int .i64 l, s]] W fun e w' => e = .returned (.int .i64 (L : Int)) ∧ Below W.heap.size W w' := fun W hW => by rw [hL]; exact specLevel8 k t n l s W
  rw [← hL]
  clear hL 
  have hv := Var.new w k t n l s 46
  have hbb : Below w.heap.size w (w.alloc (.cells #[.int .i64 k, .string t, .int .i64 n, .int .i64 l, s] 46)) := by repeat (first | exact Below.refl _ _ | refine Below.drew ?_ | refine Below.setCell ?_ (by (try simp); try omega) _ | refine Below.alloc ?_ (by (try simp); try omega) _)
  have hzz := hbb.size
  have g0 : ¬ 9223372036854775807 < 1 + Z.size := by omega
  have g1 : ¬ 9223372036854775807 < 1 + Z.size + 1 := by omega
  by_cases hlt : L < need
  · have HN := Lib.hid (show atT need (k, L, Z) = ⟨#[40]⟩ ++ Z ++ ⟨#[41]⟩ from if_pos hlt)
    go_enter Tryz.func14, Tryz.ntmps14
    go_wp2_with (first
      | (go_at_call 30; refine (hN _ (by repeat (first | exact hbb | refine Below.drew ?_ | refine Below.setCell ?_ (by (try simp); try omega) _ | refine Below.alloc ?_ (by (try simp); try omega) _))).mono ?_; rintro e w1 ⟨rfl, hb1⟩; have hv := Var.kept (g := w.heap.size) (k := k) (t := t) (n := n) (l := l) (s := s) (by repeat (first | exact hv | exact X.Var.new _ _ _ _ _ _ _ | refine X.Var.drew ?_ | refine X.Var.alloc ?_ _)) hb1; have hbb := growT (w := w) (by repeat (first | exact hbb | refine Below.drew ?_ | refine Below.setCell ?_ (by (try simp); try omega) _ | refine Below.alloc ?_ (by (try simp); try omega) _)) hb1; have hzz := hbb.size; obtain ⟨a0, a1, a2, a3, a4⟩ := id hv)
      | (go_at_call 29; refine (hLv _ (by repeat (first | exact hbb | refine Below.drew ?_ | refine Below.setCell ?_ (by (try simp); try omega) _ | refine Below.alloc ?_ (by (try simp); try omega) _))).mono ?_; rintro e w2 ⟨rfl, hb2⟩; have hv := Var.kept (g := w.heap.size) (k := k) (t := t) (n := n) (l := l) (s := s) (by repeat (first | exact hv | exact X.Var.new _ _ _ _ _ _ _ | refine X.Var.drew ?_ | refine X.Var.alloc ?_ _)) hb2; have hbb := growT (w := w) (by repeat (first | exact hbb | refine Below.drew ?_ | refine Below.setCell ?_ (by (try simp); try omega) _ | refine Below.alloc ?_ (by (try simp); try omega) _)) hb2; have hzz := hbb.size; obtain ⟨a0, a1, a2, a3, a4⟩ := id hv))
    go_ret
    exact ⟨ret_s HN.out.symm, hbb⟩
  · have HN := Lib.hid (show atT need (k, L, Z) = Z from if_neg hlt)
    go_enter Tryz.func14, Tryz.ntmps14
    go_wp2_with (first
      | (go_at_call 30; refine (hN _ (by repeat (first | exact hbb | refine Below.drew ?_ | refine Below.setCell ?_ (by (try simp); try omega) _ | refine Below.alloc ?_ (by (try simp); try omega) _))).mono ?_; rintro e w1 ⟨rfl, hb1⟩; have hv := Var.kept (g := w.heap.size) (k := k) (t := t) (n := n) (l := l) (s := s) (by repeat (first | exact hv | exact X.Var.new _ _ _ _ _ _ _ | refine X.Var.drew ?_ | refine X.Var.alloc ?_ _)) hb1; have hbb := growT (w := w) (by repeat (first | exact hbb | refine Below.drew ?_ | refine Below.setCell ?_ (by (try simp); try omega) _ | refine Below.alloc ?_ (by (try simp); try omega) _)) hb1; have hzz := hbb.size; obtain ⟨a0, a1, a2, a3, a4⟩ := id hv)
      | (go_at_call 29; refine (hLv _ (by repeat (first | exact hbb | refine Below.drew ?_ | refine Below.setCell ?_ (by (try simp); try omega) _ | refine Below.alloc ?_ (by (try simp); try omega) _))).mono ?_; rintro e w2 ⟨rfl, hb2⟩; have hv := Var.kept (g := w.heap.size) (k := k) (t := t) (n := n) (l := l) (s := s) (by repeat (first | exact hv | exact X.Var.new _ _ _ _ _ _ _ | refine X.Var.drew ?_ | refine X.Var.alloc ?_ _)) hb2; have hbb := growT (w := w) (by repeat (first | exact hbb | refine Below.drew ?_ | refine Below.setCell ?_ (by (try simp); try omega) _ | refine Below.alloc ?_ (by (try simp); try omega) _)) hb2; have hzz := hbb.size; obtain ⟨a0, a1, a2, a3, a4⟩ := id hv))
    go_ret
    exact ⟨ret_s HN.out.symm, hbb⟩
set_option maxRecDepth 20000 in
set_option maxHeartbeats 4000000 in
theorem specAll8 (by_ : List UInt8) (r : List X) (A : Option Addr) (cap : Nat) (w : World) (P : Nat → Prop) (hK : Kc w P r (.slice A r.length cap)) (hP : ∀ b, P b → b < w.heap.size) (L : List ByteArray) (hLl : L.length = r.length) (hl : r.length ≤ 1000) (hby : by_.length ≤ 10)
    (hC : ∀ (j : Nat) (h : j < r.length) (W : World) (A1 : Option Addr) (cap1 : Nat), Below w.heap.size w W → Kc w P r[j].r (.slice A1 r[j].r.length cap1) → Calls Tryz.prog 14 #[.agg #[.int .i64 r[j].k, .string r[j].t, .int .i64 r[j].n, .int .i64 r[j].l, .slice A1 r[j].r.length cap1], .int .i64 0] W fun e w' => e = .returned (.string (L[j]'(by omega))) ∧ Below W.heap.size W w')
    (hz : (joT by_ L).size ≤ 1048576) (hzi : ∀ j (h : j < L.length), L[j].size ≤ 1048576) :
    Calls Tryz.prog 52 #[.slice A r.length cap, .string ⟨by_.toArray⟩] w fun e w' => e = .returned (.string (joT by_ L)) ∧ Below w.heap.size w w' := by
  obtain ⟨hjr, hjl⟩ := joT_R by_ L hz
  have HS0 := Lib.hid (SBuf.lit w w.heap.size [] (Nat.le_refl _) (by simp [maxLen]))
  have HJ := Lib.hid hjr
  clear hjr
  go_enter Tryz.func52, Tryz.ntmps52
  go_wp2_with fail
  go_loopw [5, 6] (fun v i wr => ∃ (j : Nat) (acc : List ByteArray), i = .int .i64 j ∧ j ≤ r.length ∧ acc.length = j ∧ Hid (acc = L.take j) ∧ SBuf wr w.heap.size v acc ∧ Below w.heap.size w wr)
    (fun _ i _ => r.length - (intOf i).toNat)
  case atStart => exact ⟨0, [], rfl, by omega, rfl, Lib.hid rfl, HS0.out, (Below.refl _ _).alloc (Nat.le_refl _) _⟩
  case round =>
    obtain ⟨j, acc, rfl, hj, hacc, HM, hown, hb⟩ := hrel
    have hsz := hb.size
    obtain ⟨Av, capv, rfl⟩ := hown.form
    rw [hacc] at hown ⊢
    by_cases hlt : j < r.length
    · obtain ⟨b, o, s', rfl, hPb, hkid, c0, c1, c2, c3, c4⟩ := Kc.at_ (hK.below hb hP) hlt
      obtain ⟨b', o', s2, e2, -, hkid2, -⟩ := Kc.at_ hK hlt
      have hbw := hP b hPb
      obtain ⟨A1, cap1, rfl⟩ := hkid.form
      have hkw : Kc w P r[j].r (.slice A1 r[j].r.length cap1) := by
        obtain ⟨b3, o3, s3, e3, -, hk3, -, -, -, -, d4⟩ := Kc.at_ hK hlt
        have e4 : b3 = b ∧ o3 = o := by
          simp only [Option.some.injEq, Addr.mk.injEq] at e3
          exact ⟨e3.1.symm, e3.2.1.symm⟩
        obtain ⟨rfl, rfl⟩ := e4
        have h5 := (hb.cell (p := ⟨b3, o3 + j * 5 + 4, none⟩) hbw).trans d4
        rw [c4] at h5
        obtain rfl := Option.some.inj h5
        exact hk3
      have hjL : j < L.length := by rw [hLl]; exact hlt
      have ij : (j : Int) < (r.length : Int) := by omega
      have hCj : ∀ W : World, Below w.heap.size w W → Calls Tryz.prog 14 #[.agg #[.int .i64 r[j].k, .string r[j].t, .int .i64 r[j].n, .int .i64 r[j].l, .slice A1 r[j].r.length cap1], .int .i64 0] W fun e w' => e = .returned (.string (L[j]'hjL)) ∧ Below W.heap.size W w' := fun W hW => hC j hlt W A1 cap1 hW hkw
      have hqz := hzi j hjL
      have HN := Lib.hid (show acc ++ [L[j]'hjL] = L.take (j + 1) by rw [HM.out, List.take_succ_eq_append_getElem hjL])
      generalize (L[j]'hjL) = q at hCj hqz HN
      clear HM e2 hkid2 hkid hkw
      have HO := Lib.hid hown
      go_wp2_with (first
        | (go_at_call 14; refine (hCj _ (hb.trans (Below.mono (by repeat (first | exact Below.refl _ _ | refine Below.drew ?_ | refine Below.setCell ?_ (by (try simp); try omega) _ | refine Below.alloc ?_ (by (try simp); try omega) _)) hsz))).mono ?_; rintro e w4 ⟨rfl, hb4⟩; have hbr4 : Below wr.heap.size wr w4 := Below.trans (by repeat (first | exact Below.refl _ _ | refine Below.drew ?_ | refine Below.setCell ?_ (by (try simp); try omega) _ | refine Below.alloc ?_ (by (try simp); try omega) _)) (hb4.mono (by simp)); have ow := SBuf.kept HO.out hbr4; have hbb4 := hb.trans (hbr4.mono hsz); have hs4 := hbb4.size)
        | (at_builtin; refine wpList_appendS_lit rfl _ _ rfl rfl ow 1 rfl (by simp) [q] rfl rfl (by omega) (by omega) ?_; intro v5 w5 hown5 hb5))
      go_roundw
      case rel => exact ⟨j + 1, acc ++ [q], by go_num, by omega, by simp; omega, HN, hown5, hbb4.trans hb5⟩
      case measure => simp [intOf]; omega
    · obtain rfl : j = r.length := by omega
      have hJ : ∀ W : World, Below wr.heap.size wr W → Calls Tryz.prog 13 #[.slice Av r.length capv, .string ⟨by_.toArray⟩] W fun e w' => e = .returned (.string (joT by_ L)) ∧ Below W.heap.size W w' := fun W hW => by
        have e : acc = L := by rw [HM.out, ← hLl, List.take_length]
        have h := specJoined acc ⟨by_.toArray⟩ (.slice Av r.length capv) (· < W.heap.size) W (hown.sr_in hW) (fun _ h => h) (by omega) (by show by_.toArray.size ≤ _; simp; omega) (by rw [e]; exact hjl) (fun i h => by subst e; exact hzi i h)
        rw [e, HJ.out] at h
        exact h
      clear HM hlt
      go_wp2_with (go_at_call 13; refine (hJ _ (Below.refl _ _)).mono ?_; rintro e w5 ⟨rfl, hb5⟩)
      go_ret
      exact ⟨rfl, hb.trans (hb5.mono hsz)⟩
end X
end Go.Proofs.YtljblaglfooclaaGreatDoor

namespace Go.Proofs.YtljblaglfooclaaGreatDoor
open Go.RowKit
namespace X

/-- Words and kids as the program joins them: the blank stands ahead of a word. -/
def wiT (ws : List ByteArray) (K : List Kp) : Nat → ByteArray
  | 0 => ⟨#[]⟩
  | j + 1 => wiT ws K j ++ (ws.getD j ⟨#[]⟩ ++ ⟨#[32]⟩ ++ atT 1 (kd K j))
/-- The program's words: a blank ahead of all but the first. -/
def blT : List ByteArray → List ByteArray
  | [] => []
  | w :: ws => w :: ws.map fun x => ⟨#[32]⟩ ++ x
theorem blT_get (ws : List ByteArray) (j : Nat) (hj : 0 < j) (h : j < ws.length) : (blT ws).getD j ⟨#[]⟩ = ⟨#[32]⟩ ++ ws.getD j ⟨#[]⟩ := by
  cases ws with
  | nil => simp at h
  | cons w ws =>
    cases j with
    | zero => omega
    | succ j =>
      have h' : j < ws.length := by simpa using h
      simp [blT, List.getD_eq_getElem?_getD, h']
theorem emp_append (a : ByteArray) : (⟨#[]⟩ : ByteArray) ++ a = a := by
  apply ByteArray.ext
  simp
theorem wi_wo (ws : List ByteArray) (K : List Kp) : ∀ j, j < ws.length → wiT (blT ws) K (j + 1) = woT ws K (j + 1)
  | 0, h => by
    rw [wiT, wiT, woT, if_neg (by omega), emp_append]
    cases ws with
    | nil => simp at h
    | cons w ws => rfl
  | j + 1, h => by
    have ih := wi_wo ws K j (by omega)
    rw [wiT, ih, blT_get ws (j + 1) (by omega) h]
    conv => rhs; rw [woT, if_pos (by omega)]
    simp only [ByteArray.append_assoc]
theorem ws_cell {W : World} {ws : List ByteArray} {cs : Array Value} {T : TypeId} (hcs : cs.toList = textsV ws) {j : Nat} (hj : j < ws.length) : (W.alloc (.cells cs T)).cell? ⟨W.heap.size, j, none⟩ = some (.string (ws.getD j ⟨#[]⟩)) := by
  rw [World.cell?_alloc_at _ _ _ _ rfl, ← Array.getElem?_toList, hcs, textsV_get ws j hj, List.getD_eq_getElem?_getD, List.getElem?_eq_getElem hj]; rfl
theorem keepW {w w' : World} {g G j : Nat} {k : Int} {t : ByteArray} {n l : Int} {s u : Value} (h : Var w g k t n l s ∧ w.cell? ⟨G, j, none⟩ = some u) (hb : Below w.heap.size w w') : Var w' g k t n l s ∧ w'.cell? ⟨G, j, none⟩ = some u := ⟨h.1.kept hb, kc1 hb h.2⟩
set_option maxRecDepth 20000 in
set_option maxHeartbeats 4000000 in
theorem implWords8 (ws : List ByteArray) (r : List X) (A : Option Addr) (cap : Nat) (w W : World) (P : Nat → Prop) (hK : Kc w P r (.slice A r.length cap)) (hP : ∀ b, P b → b < w.heap.size) (hb0 : Below w.heap.size w W) (hC : PrI w P r)
    (hz : ∀ j need, j < r.length → (atT need (kd (PK r) j)).size ≤ 1000000000) (hl : r.length ≤ ws.length) (hw1 : 1 ≤ ws.length) (hw3 : ws.length ≤ 3) (hws : ∀ j, (ws.getD j ⟨#[]⟩).size ≤ 20) {cs : Array Value} {T : TypeId} (hcs : cs.toList = textsV ws) {G m : Nat} (hG : G = W.heap.size) (hm : m = ws.length) :
    Calls Tryz.prog 70 #[.slice A r.length cap, .slice (some ⟨G, 0, none⟩) m m] (W.alloc (.cells cs T)) fun e w' => e = .returned (.string (if r.length = 0 then ws.getD 0 ⟨#[]⟩ else wiT ws (PK r) r.length)) ∧ Below (W.alloc (.cells cs T)).heap.size (W.alloc (.cells cs T)) w' := by
  subst hG
  have hm1 : m ≤ ws.length := by omega
  have hm2 : ws.length ≤ m := by omega
  clear hm
  have HW : Hid (∀ j, j < ws.length → (W.alloc (.cells cs T)).cell? ⟨W.heap.size, j, none⟩ = some (.string (ws.getD j ⟨#[]⟩))) := Lib.hid fun j hj => ws_cell hcs hj
  have hbV : Below w.heap.size w (W.alloc (.cells cs T)) := hb0.alloc hb0.size _
  have hVg : W.heap.size < (W.alloc (.cells cs T)).heap.size := by simp
  generalize hV : W.alloc (.cells cs T) = V at HW hbV hVg
  generalize W.heap.size = G at HW hVg
  have HR0 := Lib.hid (show (r.length = 0 → (if r.length = 0 then ws.getD 0 ⟨#[]⟩ else wiT ws (PK r) r.length) = ws.getD 0 ⟨#[]⟩) ∧ (r.length ≠ 0 → (if r.length = 0 then ws.getD 0 ⟨#[]⟩ else wiT ws (PK r) r.length) = wiT ws (PK r) r.length) from ⟨fun h => if_pos h, fun h => if_neg h⟩)
  generalize (if r.length = 0 then ws.getD 0 ⟨#[]⟩ else wiT ws (PK r) r.length) = R at HR0 ⊢
  clear hV hb0 hcs
  go_enter Tryz.func70, Tryz.ntmps70
  go_wp2_with fail
  go_loopw [5, 10] (fun v i wr => ∃ (j : Nat) (acc : ByteArray), i = .int .i64 j ∧ v = .string acc ∧ j ≤ r.length ∧ Hid (acc = wiT ws (PK r) j) ∧ acc.size ≤ 2000000000 * j ∧ Below V.heap.size V wr)
    (fun _ i _ => r.length - (intOf i).toNat)
  case atStart => exact ⟨0, ⟨#[]⟩, rfl, rfl, by omega, Lib.hid rfl, Nat.zero_le _, Below.refl _ _⟩
  case round =>
    obtain ⟨j, acc, rfl, rfl, hj, HM, hacc, hb⟩ := hrel
    have hsz := hb.size
    have hbw := hbV.trans (hb.mono hbV.size)
    have hsw := hbw.size
    by_cases hlt : j < r.length
    · have hlt0 : 0 < r.length := by omega
      obtain ⟨b, o, rfl, hPb, hkid⟩ := hK.row hlt0
      have hbb := hP b hPb
      obtain ⟨A1, cap1, k1, v1⟩ := hkid j hlt
      have u1 := v1.below hbw hbb
      have ij : (j : Int) < (r.length : Int) := by omega
      have ijm : (j : Int) < (m : Int) := by omega
      have x0 := kc1 hb (HW.out j (by omega))
      have hwz := hws j
      have hq := hz j 1 hlt
      have hCj : ∀ W : World, Below w.heap.size w W → Calls Tryz.prog 20 #[.agg #[.int .i64 r[j].k, .string r[j].t, .int .i64 r[j].n, .int .i64 r[j].l, .slice A1 r[j].r.length cap1], .int .i64 1] W fun e w' => e = .returned (.string (atT 1 (kd (PK r) j))) ∧ Below W.heap.size W w' := fun W hW => hC j hlt 1 W A1 cap1 hW k1
      have HN := Lib.hid (show acc ++ (ws.getD j ⟨#[]⟩ ++ ⟨#[32]⟩ ++ atT 1 (kd (PK r) j)) = wiT ws (PK r) (j + 1) by rw [wiT, HM.out])
      generalize atT 1 (kd (PK r) j) = p at hCj hq HN
      generalize ws.getD j ⟨#[]⟩ = y at x0 hwz HN
      obtain ⟨a0, a1, a2, a3, a4⟩ := u1
      generalize r[j].k = ka at *
      generalize r[j].t = ta at *
      generalize r[j].n = na at *
      generalize r[j].l = la at *
      generalize hrr : r[j].r.length = lra at *
      have hj3 : j ≤ 3 := by omega
      have g0 : ¬ 9223372036854775807 < y.size + 1 := by omega
      have g1 : ¬ 9223372036854775807 < y.size + 1 + p.size := by omega
      have g2 : ¬ 9223372036854775807 < acc.size + (y.size + 1 + p.size) := by omega
      clear HM v1 hkid k1 hrr
      go_upto_region 5 with fail
      have hbb2 : Below w.heap.size w (wr.alloc (.cells #[.int .i64 ka, .string ta, .int .i64 na, .int .i64 la, .slice A1 lra cap1] 46)) := hbw.alloc hbw.size _
      have hv := Var.new wr ka ta na la (.slice A1 lra cap1) 46
      have x1 := kc1 ((Below.refl wr.heap.size wr).alloc (Nat.le_refl _) (.cells #[.int .i64 ka, .string ta, .int .i64 na, .int .i64 la, .slice A1 lra cap1] 46)) x0
      have hbr2 : Below wr.heap.size wr (wr.alloc (.cells #[.int .i64 ka, .string ta, .int .i64 na, .int .i64 la, .slice A1 lra cap1] 46)) := by repeat (first | exact Below.refl _ _ | refine Below.drew ?_ | refine Below.setCell ?_ (by (try simp); try omega) _ | refine Below.alloc ?_ (by (try simp); try omega) _)
      generalize wr.alloc (.cells #[.int .i64 ka, .string ta, .int .i64 na, .int .i64 la, .slice A1 lra cap1] 46) = w1 at hbb2 hv x1 hbr2 ⊢
      have hzz := hbb2.size
      obtain ⟨d0, d1, d2, d3, d4⟩ := id hv
      have HU := Lib.hid (And.intro hv x1)
      clear hv a0 a1 a2 a3 a4 x0
      go_region_held3 (fun w' => (w'.cell? ⟨wr.heap.size, 0, none⟩ = some (.int .i64 ka) ∧ w'.cell? ⟨wr.heap.size, 1, none⟩ = some (.string ta) ∧ w'.cell? ⟨wr.heap.size, 2, none⟩ = some (.int .i64 na) ∧ w'.cell? ⟨wr.heap.size, 3, none⟩ = some (.int .i64 la) ∧ w'.cell? ⟨wr.heap.size, 4, none⟩ = some (.slice A1 lra cap1)) ∧ w'.cell? ⟨G, j, none⟩ = some (.string y)) ((refine keepW HU.out ?_; repeat (first | exact Below.refl _ _ | refine Below.drew ?_ | refine Below.alloc ?_ (by (try simp); try omega) _ | refine Below.trans ?_ (hb3.mono (by (try simp); try omega)) | refine Below.trans ?_ (hb4.mono (by (try simp); try omega)) | refine Below.trans ?_ (hb5.mono (by (try simp); try omega)))))
        (first
          | (go_at_call 20; refine (hCj _ (hbb2.trans (Below.mono (by repeat (first | exact Below.refl _ _ | refine Below.drew ?_ | refine Below.setCell ?_ (by (try simp); try omega) _ | refine Below.alloc ?_ (by (try simp); try omega) _)) hzz))).mono ?_; rintro e w3 ⟨rfl, hb3⟩; have hs3 := hb3.size; (try simp at hs3); have hbx : Below w1.heap.size w1 w3 := Below.trans (by repeat (first | exact Below.refl _ _ | refine Below.drew ?_ | refine Below.setCell ?_ (by (try simp); try omega) _ | refine Below.alloc ?_ (by (try simp); try omega) _)) (hb3.mono (by simp))))
      all_goals
        go_wp2_with fail
        go_roundw
        case rel =>
          first
          | exact ⟨j + 1, _, by go_num, rfl, by omega, HN, by simp only [ByteArray.size_append]; show acc.size + (y.size + 1 + p.size) ≤ _; omega, hb.trans ((hbr2.trans (hbx.mono hbr2.size)).mono hsz)⟩
          | ((repeat apply Exists.intro); exact ⟨⟨j + 1, _, by go_num, rfl, by omega, HN, by simp only [ByteArray.size_append]; show acc.size + (y.size + 1 + p.size) ≤ _; omega, hb.trans ((hbr2.trans (hbx.mono hbr2.size)).mono hsz)⟩, rfl⟩)
        case measure => simp [intOf]; omega
    · obtain rfl : j = r.length := by omega
      by_cases h0 : r.length = 0
      · have HN := Lib.hid (HR0.out.1 h0)
        have x0 := kc1 hb (HW.out 0 (by omega))
        have im : (0 : Int) < (m : Int) := by omega
        have b0 : ((r.length : Int) == 0) = true := by rw [h0]; rfl
        generalize ws.getD 0 ⟨#[]⟩ = y at x0 HN
        clear HM hlt
        go_wp2_with fail
        go_ret
        exact ⟨ret_s HN.out.symm, hb⟩
      · have HN := Lib.hid (show R = acc by rw [HR0.out.2 h0, HM.out])
        have b0 : ((r.length : Int) == 0) = false := by rw [beq_eq_false_iff_ne]; omega
        clear HM hlt
        go_wp2_with fail
        go_ret
        exact ⟨ret_s HN.out.symm, hb⟩
set_option maxRecDepth 20000 in
set_option maxHeartbeats 4000000 in
theorem specWords8 (ws : List ByteArray) (k : Int) (t : ByteArray) (n l : Int) (r : List X) (A : Option Addr) (cap : Nat) (w W : World) (P : Nat → Prop) (hK : Kc w P r (.slice A r.length cap)) (hP : ∀ b, P b → b < w.heap.size) (hb0 : Below w.heap.size w W) (hC : PrS w P r)
    (hz : ∀ j need, j < r.length → (atT need (kd (PK r) j)).size ≤ 1000000000) (hl : r.length ≤ ws.length) (hw1 : 1 ≤ ws.length) (hw3 : ws.length ≤ 3) (hws : ∀ j, (ws.getD j ⟨#[]⟩).size ≤ 20) {cs : Array Value} {T : TypeId} (hcs : cs.toList = textsV ws) {G m : Nat} (hG : G = W.heap.size) (hm : m = ws.length) :
    Calls Tryz.prog 53 #[.agg #[.int .i64 k, .string t, .int .i64 n, .int .i64 l, .slice A r.length cap], .slice (some ⟨G, 0, none⟩) m m] (W.alloc (.cells cs T)) fun e w' => e = .returned (.string (woT ws (PK r) r.length)) ∧ Below (W.alloc (.cells cs T)).heap.size (W.alloc (.cells cs T)) w' := by
  subst hG
  have hm1 : m ≤ ws.length := by omega
  have hm2 : ws.length ≤ m := by omega
  clear hm
  have HW : Hid (∀ j, j < ws.length → (W.alloc (.cells cs T)).cell? ⟨W.heap.size, j, none⟩ = some (.string (ws.getD j ⟨#[]⟩))) := Lib.hid fun j hj => ws_cell hcs hj
  have hbV : Below w.heap.size w (W.alloc (.cells cs T)) := hb0.alloc hb0.size _
  have hVg : W.heap.size < (W.alloc (.cells cs T)).heap.size := by simp
  generalize hV : W.alloc (.cells cs T) = V at HW hbV hVg
  generalize W.heap.size = G at HW hVg
  have hv := Var.new V k t n l (.slice A r.length cap) 46
  have hbE : Below V.heap.size V (V.alloc (.cells #[.int .i64 k, .string t, .int .i64 n, .int .i64 l, .slice A r.length cap] 46)) := by repeat (first | exact Below.refl _ _ | refine Below.drew ?_ | refine Below.setCell ?_ (by (try simp); try omega) _ | refine Below.alloc ?_ (by (try simp); try omega) _)
  have x00 := kc1 (W := V) hbE (HW.out 0 (by omega))
  have im : (0 : Int) < (m : Int) := by omega
  have hz0 := hws 0
  have HA := Lib.hid (show ws.getD 0 ⟨#[]⟩ = woT ws (PK r) 0 from rfl)
  generalize hw0 : ws.getD 0 ⟨#[]⟩ = y0 at x00 hz0 HA
  clear hV hb0 hcs
  go_enter Tryz.func53, Tryz.ntmps53
  go_wp2_with fail
  go_loopw [5, 6] (fun v i wr => ∃ (j : Nat) (acc : ByteArray), i = .int .i64 j ∧ v = .string acc ∧ j ≤ r.length ∧ Hid (acc = woT ws (PK r) j) ∧ acc.size ≤ 2000000000 * (j + 1) ∧ Hid (Var wr V.heap.size k t n l (.slice A r.length cap)) ∧ Below V.heap.size V wr)
    (fun _ i _ => r.length - (intOf i).toNat)
  case atStart => exact ⟨0, y0, rfl, rfl, by omega, HA, by omega, Lib.hid hv, hbE⟩
  case round =>
    obtain ⟨j, acc, rfl, rfl, hj, HM, hacc, HV, hb⟩ := hrel
    have hsz := hb.size
    have hbw := hbV.trans (hb.mono hbV.size)
    have hsw := hbw.size
    obtain ⟨e0, e1, e2, e3, e4⟩ := id HV.out
    clear hv hbE x00
    by_cases hlt : j < r.length
    · have hlt0 : 0 < r.length := by omega
      obtain ⟨b, o, rfl, hPb, hkid⟩ := hK.row hlt0
      have hbb := hP b hPb
      obtain ⟨A1, cap1, k1, v1⟩ := hkid j hlt
      have u1 := v1.below hbw hbb
      have ij : (j : Int) < (r.length : Int) := by omega
      have ijm : (j : Int) < (m : Int) := by omega
      have x0 := kc1 hb (HW.out j (by omega))
      have hwz := hws j
      have hq := hz j 1 hlt
      have hCj : ∀ W : World, Below w.heap.size w W → Calls Tryz.prog 14 #[.agg #[.int .i64 r[j].k, .string r[j].t, .int .i64 r[j].n, .int .i64 r[j].l, .slice A1 r[j].r.length cap1], .int .i64 1] W fun e w' => e = .returned (.string (atT 1 (kd (PK r) j))) ∧ Below W.heap.size W w' := fun W hW => hC j hlt 1 W A1 cap1 hW k1
      have HN := Lib.hid (show (if 0 < j then acc ++ ⟨#[32]⟩ ++ ws.getD j ⟨#[]⟩ else acc) ++ ⟨#[32]⟩ ++ atT 1 (kd (PK r) j) = woT ws (PK r) (j + 1) by
        rw [woT, HM.out]
        by_cases h : 0 < j
        · rw [if_pos h, if_pos h]
        · rw [if_neg h, if_neg h, show j = 0 by omega]; rfl)
      generalize atT 1 (kd (PK r) j) = p at hCj hq HN
      generalize ws.getD j ⟨#[]⟩ = y at x0 hwz HN
      obtain ⟨a0, a1, a2, a3, a4⟩ := u1
      generalize r[j].k = ka at *
      generalize r[j].t = ta at *
      generalize r[j].n = na at *
      generalize r[j].l = la at *
      generalize hrr : r[j].r.length = lra at *
      have hj3 : j ≤ 3 := by omega
      clear HM v1 hkid k1 hrr
      by_cases hj0 : 0 < j
      · rw [if_pos hj0] at HN
        have ij0 : (0 : Int) < (j : Int) := by omega
        have g0 : ¬ 9223372036854775807 < acc.size + 1 := by omega
        have g1 : ¬ 9223372036854775807 < acc.size + 1 + y.size := by omega
        have g2 : ¬ 9223372036854775807 < acc.size + 1 + y.size + 1 := by omega
        have g3 : ¬ 9223372036854775807 < acc.size + 1 + y.size + 1 + p.size := by omega
        go_wp2_with (go_at_call 14; refine (hCj _ hbw).mono ?_; rintro e w3 ⟨rfl, hb3⟩; have HV3 := Lib.hid (HV.out.kept hb3))
        go_roundw
        case rel =>
          first
          | exact ⟨j + 1, _, by go_num, rfl, by omega, HN, by simp only [ByteArray.size_append]; show acc.size + 1 + y.size + 1 + p.size ≤ _; omega, HV3, hb.trans (hb3.mono hsz)⟩
          | ((repeat apply Exists.intro); exact ⟨⟨j + 1, _, by go_num, rfl, by omega, HN, by simp only [ByteArray.size_append]; show acc.size + 1 + y.size + 1 + p.size ≤ _; omega, HV3, hb.trans (hb3.mono hsz)⟩, rfl⟩)
        case measure => simp [intOf]; omega
      · rw [if_neg hj0] at HN
        obtain rfl : j = 0 := by omega
        have g0 : ¬ 9223372036854775807 < acc.size + 1 := by omega
        have g3 : ¬ 9223372036854775807 < acc.size + 1 + p.size := by omega
        rw [Nat.zero_mul, Nat.add_zero] at a0 a1 a2 a3 a4
        go_wp2_with (go_at_call 14; refine (hCj _ hbw).mono ?_; rintro e w3 ⟨rfl, hb3⟩; have HV3 := Lib.hid (HV.out.kept hb3))
        go_roundw
        case rel =>
          first
          | exact ⟨0 + 1, _, by go_num, rfl, by omega, HN, by simp only [ByteArray.size_append]; show acc.size + 1 + p.size ≤ _; omega, HV3, hb.trans (hb3.mono hsz)⟩
          | ((repeat apply Exists.intro); exact ⟨⟨0 + 1, _, by go_num, rfl, by omega, HN, by simp only [ByteArray.size_append]; show acc.size + 1 + p.size ≤ _; omega, HV3, hb.trans (hb3.mono hsz)⟩, rfl⟩)
        case measure => simp [intOf]; omega
    · obtain rfl : j = r.length := by omega
      have HN := Lib.hid (show woT ws (PK r) r.length = acc from HM.out.symm)
      clear HM hlt
      go_wp2_with fail
      go_ret
      exact ⟨ret_s HN.out.symm, hb⟩
end X
end Go.Proofs.YtljblaglfooclaaGreatDoor

namespace Go.Proofs.YtljblaglfooclaaGreatDoor
open Go.RowKit
namespace X

theorem kd_map (r : List X) (j : Nat) (h : j < r.length) (h' : j < ((PK r).map (atT 0)).length) : ((PK r).map (atT 0))[j] = atT 0 (kd (PK r) j) := by
  rw [List.getElem_map]
  congr 1
  unfold kd
  rw [List.getD_eq_getElem?_getD, List.getElem?_eq_getElem (by rw [pK_length]; exact h)]; rfl
theorem words_eq (ws : List ByteArray) (K : List Kp) (m : Nat) (h1 : 1 ≤ ws.length) (hm : m ≤ ws.length) : (if m = 0 then (blT ws).getD 0 ⟨#[]⟩ else wiT (blT ws) K m) = woT ws K m := by
  cases m with
  | zero =>
    rw [if_pos rfl]
    cases ws with
    | nil => simp at h1
    | cons w ws => rfl
  | succ m => rw [if_neg (by omega)]; exact wi_wo ws K m (by omega)
theorem blT_len (ws : List ByteArray) : (blT ws).length = ws.length := by cases ws <;> simp [blT]
theorem PrI.mono {w W : World} {P : Nat → Prop} {r : List X} (h : PrI w P r) (hb : Below w.heap.size w W) (hP : ∀ b, P b → b < w.heap.size) : PrI W P r :=
  fun j hj need V A cap hV hk => h j hj need V A cap (hb.trans (hV.mono hb.size)) (hk.back hb hP)
theorem implAllK (by_ : List UInt8) (r : List X) (A : Option Addr) (cap : Nat) (w W : World) (P : Nat → Prop) (hK : Kc w P r (.slice A r.length cap)) (hP : ∀ b, P b → b < w.heap.size) (hW : Below w.heap.size w W) (hC : PrI w P r) (hl : r.length ≤ 1000) (hby : by_.length ≤ 10)
    (hz : (joT by_ ((PK r).map (atT 0))).size ≤ 1048576) (hzi : ∀ j, j < r.length → (atT 0 (kd (PK r) j)).size ≤ 1048576) :
    Calls Tryz.prog 69 #[.slice A r.length cap, .string ⟨by_.toArray⟩] W fun e w' => e = .returned (.string (joT by_ ((PK r).map (atT 0)))) ∧ Below W.heap.size W w' := by
  have hlen : ((PK r).map (atT 0)).length = r.length := by rw [List.length_map, pK_length]
  refine implAll8 by_ r A cap W P (hK.below hW hP) (fun b hb => Nat.lt_of_lt_of_le (hP b hb) hW.size) _ hlen hl hby (fun j hj V A1 cap1 hV hk => ?_) hz (fun j hj => ?_)
  · rw [kd_map r j hj]
    exact (hC.mono hW hP) j hj 0 V A1 cap1 hV hk
  · rw [kd_map r j (by omega)]; exact hzi j (by omega)
theorem PrS.mono {w W : World} {P : Nat → Prop} {r : List X} (h : PrS w P r) (hb : Below w.heap.size w W) (hP : ∀ b, P b → b < w.heap.size) : PrS W P r :=
  fun j hj need V A cap hV hk => h j hj need V A cap (hb.trans (hV.mono hb.size)) (hk.back hb hP)
theorem specAllK (by_ : List UInt8) (r : List X) (A : Option Addr) (cap : Nat) (w W : World) (P : Nat → Prop) (hK : Kc w P r (.slice A r.length cap)) (hP : ∀ b, P b → b < w.heap.size) (hW : Below w.heap.size w W) (hC : PrS w P r) (hl : r.length ≤ 1000) (hby : by_.length ≤ 10)
    (hz : (joT by_ ((PK r).map (atT 0))).size ≤ 1048576) (hzi : ∀ j, j < r.length → (atT 0 (kd (PK r) j)).size ≤ 1048576) :
    Calls Tryz.prog 52 #[.slice A r.length cap, .string ⟨by_.toArray⟩] W fun e w' => e = .returned (.string (joT by_ ((PK r).map (atT 0)))) ∧ Below W.heap.size W w' := by
  have hlen : ((PK r).map (atT 0)).length = r.length := by rw [List.length_map, pK_length]
  refine specAll8 by_ r A cap W P (hK.below hW hP) (fun b hb => Nat.lt_of_lt_of_le (hP b hb) hW.size) _ hlen hl hby (fun j hj V A1 cap1 hV hk => ?_) hz (fun j hj => ?_)
  · rw [kd_map r j hj]
    exact (hC.mono hW hP) j hj 0 V A1 cap1 hV hk
  · rw [kd_map r j (by omega)]; exact hzi j (by omega)
end X
end Go.Proofs.YtljblaglfooclaaGreatDoor

namespace Go.Proofs.YtljblaglfooclaaGreatDoor
open Go.RowKit
namespace X

theorem pk_d (r : List X) : PK (r.drop 1) = (PK r).drop 1 := (pK_drop lvB cqB r 1).symm
theorem pk_drop1 (r : List X) (j : Nat) : kd (PK (r.drop 1)) j = kd (PK r) (j + 1) := by
  rw [pk_d]
  unfold kd
  rw [List.getD_eq_getElem?_getD, List.getD_eq_getElem?_getD, List.getElem?_drop, Nat.add_comm]
theorem get_drop1 (r : List X) (j : Nat) (h : j < (r.drop 1).length) (h' : j + 1 < r.length) : (r.drop 1)[j] = r[j + 1] := by simp
theorem PrI.drop1 {w : World} {P : Nat → Prop} {r : List X} (h : PrI w P r) : PrI w P (r.drop 1) := fun j hj need W A cap hW hk => by
  have h' : j + 1 < r.length := by rw [List.length_drop] at hj; omega
  have e := get_drop1 r j hj h'
  rw [pk_drop1]
  rw [e] at hk ⊢
  exact h (j + 1) h' need W A cap hW hk
set_option maxRecDepth 20000 in
set_option maxHeartbeats 4000000 in
theorem pi10 (t : ByteArray) (n l : Int) (r : List X) (A : Option Addr) (cap : Nat) (w : World) (P : Nat → Prop) (hK : Kc w P r (.slice A r.length cap)) (hP : ∀ b, P b → b < w.heap.size) (hr : 0 < r.length) (hC : PrI w P r)
    (hz : ∀ j need, j < r.length → (atT need (kd (PK r) j)).size ≤ 1048576) (hl : r.length ≤ 24) (hzj : (joT [44, 32] (((PK r).drop 1).map (atT 0))).size ≤ 1048576) (_ht : t.size ≤ 1048576) :
    Calls Tryz.prog 37 #[.agg #[.int .i64 10, .string t, .int .i64 n, .int .i64 l, .slice A r.length cap]] w fun e w' => e = .returned (.string (noT lvB cqB 10 t n (PK r))) ∧ Below w.heap.size w w' := by
  obtain ⟨b, o, rfl, hb, hkid⟩ := hK.row hr
  have hbw := hP b hb
  obtain ⟨A0, cap0, k0, v0⟩ := hkid 0 hr
  have hcp := hK.cap_
  have hKd := hK.drop1 hr
  have hN0 := fun (W : World) (hW : Below w.heap.size w W) => hC 0 hr 13 W A0 cap0 hW k0
  have q0 := hz 0 13 hr
  have hA0 : ∀ W : World, Below w.heap.size w W → Calls Tryz.prog 69 #[.slice (if cap = 1 then some ⟨b, o, none⟩ else some ⟨b, o + 5, none⟩) (r.length - 1) (cap - 1), .string ⟨#[44, 32]⟩] W fun e w' => e = .returned (.string (joT [44, 32] (((PK r).drop 1).map (atT 0)))) ∧ Below W.heap.size W w' := fun W hW => by
    have h := implAllK [44, 32] (r.drop 1) _ _ w W P hKd hP hW hC.drop1 (by rw [List.length_drop]; omega) (by decide) (by rw [pk_d]; exact hzj) (fun j hj => by rw [pk_drop1]; exact hz (j + 1) 0 (by rw [List.length_drop] at hj; omega))
    rw [pk_d, List.length_drop] at h
    exact h
  have HN := Lib.hid (show noT lvB cqB 10 t n (PK r) = atT 13 (kd (PK r) 0) ++ ⟨#[40]⟩ ++ joT [44, 32] (((PK r).drop 1).map (atT 0)) ++ ⟨#[41]⟩ from rfl)
  generalize atT 13 (kd (PK r) 0) = p0 at hN0 q0 HN
  generalize joT [44, 32] (((PK r).drop 1).map (atT 0)) = p1 at hA0 hzj HN
  clear hK hkid hC hz hKd k0
  generalize r[0] = x0 at *
  generalize r.length = len at *
  obtain ⟨ka, ta, na, la, ra⟩ := x0
  rw [show o + 0 * 5 = o by omega] at v0
  have H0 : Hid (∀ W : World, Below w.heap.size w W → Calls Tryz.prog 20 #[.agg #[.int .i64 ka, .string ta, .int .i64 na, .int .i64 la, .slice A0 ra.length cap0], .int .i64 (13 : Int)] W fun e w' => e = .returned (.string p0) ∧ Below W.heap.size W w') := Lib.hid hN0
  clear hN0
  have i1 : (1 : Int) ≤ (len : Int) := by omega
  have i2 : (len : Int) ≤ (cap : Int) := by omega
  by_cases hc : cap = 1
  · have H1 : Hid (∀ W : World, Below w.heap.size w W → Calls Tryz.prog 69 #[.slice (some ⟨b, o, none⟩) (len - 1) (cap - 1), .string ⟨#[44, 32]⟩] W fun e w' => e = .returned (.string p1) ∧ Below W.heap.size W w') := Lib.hid fun W hW => by have h := hA0 W hW; rw [if_pos hc] at h; exact h
    clear hA0
    have hlen1 : len = 1 := by omega
    subst hc hlen1
    go_enter Tryz.func37, Tryz.ntmps37
    go_upto_region 38 with fail
    generalize hW1 : w.alloc (.cells #[.int .i64 10, .string t, .int .i64 n, .int .i64 l, .slice (some ⟨b, o, none⟩) 1 1] 46) = w1
    have hbb : Below w.heap.size w w1 := by rw [← hW1]; repeat (first | exact Below.refl _ _ | refine Below.drew ?_ | refine Below.setCell ?_ (by (try simp); try omega) _ | refine Below.alloc ?_ (by (try simp); try omega) _)
    have hv : Var w1 w.heap.size 10 t n l (.slice (some ⟨b, o, none⟩) 1 1) := by rw [← hW1]; exact Var.new w 10 t n l _ 46
    clear hW1
    have hzz := hbb.size
    have u0 := v0.below hbb hbw
    obtain ⟨a0, a1, a2, a3, a4⟩ := id u0
    obtain ⟨e0, e1, e2, e3', e4⟩ := id hv
    clear v0
    have g0 : ¬ 9223372036854775807 < p0.size + 1 := by omega
    have g1 : ¬ 9223372036854775807 < p0.size + 1 + p1.size := by omega
    have g2 : ¬ 9223372036854775807 < p0.size + 1 + p1.size + 1 := by omega
    have HU := Lib.hid (And.intro hv u0)
    clear hv u0
    go_region_held3 (fun w' => ((w'.cell? ⟨w.heap.size, 1, none⟩ = some (.string t) ∧ w'.cell? ⟨w.heap.size, 4, none⟩ = some (.slice (some ⟨b, o, none⟩) 1 1)) ∧ (w'.cell? ⟨b, o, none⟩ = some (.int .i64 ka) ∧ w'.cell? ⟨b, o + 1, none⟩ = some (.string ta) ∧ w'.cell? ⟨b, o + 2, none⟩ = some (.int .i64 na) ∧ w'.cell? ⟨b, o + 3, none⟩ = some (.int .i64 la) ∧ w'.cell? ⟨b, o + 4, none⟩ = some (.slice A0 ra.length cap0)))) ((refine keepP1 HU.out ?_; repeat (first | exact Below.refl _ _ | refine Below.drew ?_ | refine Below.alloc ?_ (by (try simp); try omega) _ | refine Below.trans ?_ (hb3.mono (by (try simp); try omega)) | refine Below.trans ?_ (hb4.mono (by (try simp); try omega)) | refine Below.trans ?_ (hb5.mono (by (try simp); try omega)))))
      (first
        | (go_at_call 69; have tok := hb3; refine (H1.out _ (by repeat (first | exact hbb | refine Below.drew ?_ | refine Below.setCell ?_ (by (try simp); try omega) _ | refine Below.alloc ?_ (by (try simp); try omega) _))).mono ?_; rintro e w4 ⟨rfl, hb4⟩; have hbb := growT (w := w) (by repeat (first | exact hbb | refine Below.drew ?_ | refine Below.setCell ?_ (by (try simp); try omega) _ | refine Below.alloc ?_ (by (try simp); try omega) _)) hb4; have hzz := hbb.size; have hs4 := hb4.size; (try simp at hs4))
        | (go_at_call 20; refine (H0.out _ (by repeat (first | exact hbb | refine Below.drew ?_ | refine Below.setCell ?_ (by (try simp); try omega) _ | refine Below.alloc ?_ (by (try simp); try omega) _))).mono ?_; rintro e w3 ⟨rfl, hb3⟩; have hbb := growT (w := w) (by repeat (first | exact hbb | refine Below.drew ?_ | refine Below.setCell ?_ (by (try simp); try omega) _ | refine Below.alloc ?_ (by (try simp); try omega) _)) hb3; have hzz := hbb.size; have hs3 := hb3.size; (try simp at hs3)))
    all_goals
      go_wp2_with fail
      go_ret
      exact ⟨ret_s HN.out.symm, by repeat (first | exact hbb | refine Below.drew ?_ | refine Below.setCell ?_ (by (try simp); try omega) _ | refine Below.alloc ?_ (by (try simp); try omega) _)⟩
  · have H1 : Hid (∀ W : World, Below w.heap.size w W → Calls Tryz.prog 69 #[.slice (some ⟨b, o + 5, none⟩) (len - 1) (cap - 1), .string ⟨#[44, 32]⟩] W fun e w' => e = .returned (.string p1) ∧ Below W.heap.size W w') := Lib.hid fun W hW => by have h := hA0 W hW; rw [if_neg hc] at h; exact h
    clear hA0
    go_enter Tryz.func37, Tryz.ntmps37
    go_upto_region 38 with fail
    generalize hW1 : w.alloc (.cells #[.int .i64 10, .string t, .int .i64 n, .int .i64 l, .slice (some ⟨b, o, none⟩) len cap] 46) = w1
    have hbb : Below w.heap.size w w1 := by rw [← hW1]; repeat (first | exact Below.refl _ _ | refine Below.drew ?_ | refine Below.setCell ?_ (by (try simp); try omega) _ | refine Below.alloc ?_ (by (try simp); try omega) _)
    have hv : Var w1 w.heap.size 10 t n l (.slice (some ⟨b, o, none⟩) len cap) := by rw [← hW1]; exact Var.new w 10 t n l _ 46
    clear hW1
    have hzz := hbb.size
    have u0 := v0.below hbb hbw
    obtain ⟨a0, a1, a2, a3, a4⟩ := id u0
    obtain ⟨e0, e1, e2, e3', e4⟩ := id hv
    clear v0
    have g0 : ¬ 9223372036854775807 < p0.size + 1 := by omega
    have g1 : ¬ 9223372036854775807 < p0.size + 1 + p1.size := by omega
    have g2 : ¬ 9223372036854775807 < p0.size + 1 + p1.size + 1 := by omega
    have HU := Lib.hid (And.intro hv u0)
    clear hv u0
    go_region_held3 (fun w' => ((w'.cell? ⟨w.heap.size, 1, none⟩ = some (.string t) ∧ w'.cell? ⟨w.heap.size, 4, none⟩ = some (.slice (some ⟨b, o, none⟩) len cap)) ∧ (w'.cell? ⟨b, o, none⟩ = some (.int .i64 ka) ∧ w'.cell? ⟨b, o + 1, none⟩ = some (.string ta) ∧ w'.cell? ⟨b, o + 2, none⟩ = some (.int .i64 na) ∧ w'.cell? ⟨b, o + 3, none⟩ = some (.int .i64 la) ∧ w'.cell? ⟨b, o + 4, none⟩ = some (.slice A0 ra.length cap0)))) ((refine keepP1 HU.out ?_; repeat (first | exact Below.refl _ _ | refine Below.drew ?_ | refine Below.alloc ?_ (by (try simp); try omega) _ | refine Below.trans ?_ (hb3.mono (by (try simp); try omega)) | refine Below.trans ?_ (hb4.mono (by (try simp); try omega)) | refine Below.trans ?_ (hb5.mono (by (try simp); try omega)))))
      (first
        | (go_at_call 69; have tok := hb3; refine (H1.out _ (by repeat (first | exact hbb | refine Below.drew ?_ | refine Below.setCell ?_ (by (try simp); try omega) _ | refine Below.alloc ?_ (by (try simp); try omega) _))).mono ?_; rintro e w4 ⟨rfl, hb4⟩; have hbb := growT (w := w) (by repeat (first | exact hbb | refine Below.drew ?_ | refine Below.setCell ?_ (by (try simp); try omega) _ | refine Below.alloc ?_ (by (try simp); try omega) _)) hb4; have hzz := hbb.size; have hs4 := hb4.size; (try simp at hs4))
        | (go_at_call 20; refine (H0.out _ (by repeat (first | exact hbb | refine Below.drew ?_ | refine Below.setCell ?_ (by (try simp); try omega) _ | refine Below.alloc ?_ (by (try simp); try omega) _))).mono ?_; rintro e w3 ⟨rfl, hb3⟩; have hbb := growT (w := w) (by repeat (first | exact hbb | refine Below.drew ?_ | refine Below.setCell ?_ (by (try simp); try omega) _ | refine Below.alloc ?_ (by (try simp); try omega) _)) hb3; have hzz := hbb.size; have hs3 := hb3.size; (try simp at hs3)))
    all_goals
      go_wp2_with fail
      go_ret
      exact ⟨ret_s HN.out.symm, by repeat (first | exact hbb | refine Below.drew ?_ | refine Below.setCell ?_ (by (try simp); try omega) _ | refine Below.alloc ?_ (by (try simp); try omega) _)⟩
theorem PrS.drop1 {w : World} {P : Nat → Prop} {r : List X} (h : PrS w P r) : PrS w P (r.drop 1) := fun j hj need W A cap hW hk => by
  have h' : j + 1 < r.length := by rw [List.length_drop] at hj; omega
  have e := get_drop1 r j hj h'
  rw [pk_drop1]
  rw [e] at hk ⊢
  exact h (j + 1) h' need W A cap hW hk
set_option maxRecDepth 20000 in
set_option maxHeartbeats 4000000 in
theorem pj10 (t : ByteArray) (n l : Int) (r : List X) (A : Option Addr) (cap : Nat) (w : World) (P : Nat → Prop) (hK : Kc w P r (.slice A r.length cap)) (hP : ∀ b, P b → b < w.heap.size) (hr : 0 < r.length) (hC : PrS w P r)
    (hz : ∀ j need, j < r.length → (atT need (kd (PK r) j)).size ≤ 1048576) (hl : r.length ≤ 24) (hzj : (joT [44, 32] (((PK r).drop 1).map (atT 0))).size ≤ 1048576) (_ht : t.size ≤ 1048576) :
    Calls Tryz.prog 30 #[.agg #[.int .i64 10, .string t, .int .i64 n, .int .i64 l, .slice A r.length cap]] w fun e w' => e = .returned (.string (noT lvB cqB 10 t n (PK r))) ∧ Below w.heap.size w w' := by
  obtain ⟨b, o, rfl, hb, hkid⟩ := hK.row hr
  have hbw := hP b hb
  obtain ⟨A0, cap0, k0, v0⟩ := hkid 0 hr
  have hcp := hK.cap_
  have hKd := hK.drop1 hr
  have hN0 := fun (W : World) (hW : Below w.heap.size w W) => hC 0 hr 13 W A0 cap0 hW k0
  have q0 := hz 0 13 hr
  have hA0 : ∀ W : World, Below w.heap.size w W → Calls Tryz.prog 52 #[.slice (if cap = 1 then some ⟨b, o, none⟩ else some ⟨b, o + 5, none⟩) (r.length - 1) (cap - 1), .string ⟨#[44, 32]⟩] W fun e w' => e = .returned (.string (joT [44, 32] (((PK r).drop 1).map (atT 0)))) ∧ Below W.heap.size W w' := fun W hW => by
    have h := specAllK [44, 32] (r.drop 1) _ _ w W P hKd hP hW hC.drop1 (by rw [List.length_drop]; omega) (by decide) (by rw [pk_d]; exact hzj) (fun j hj => by rw [pk_drop1]; exact hz (j + 1) 0 (by rw [List.length_drop] at hj; omega))
    rw [pk_d, List.length_drop] at h
    exact h
  have HN := Lib.hid (show noT lvB cqB 10 t n (PK r) = atT 13 (kd (PK r) 0) ++ ⟨#[40]⟩ ++ joT [44, 32] (((PK r).drop 1).map (atT 0)) ++ ⟨#[41]⟩ from rfl)
  generalize atT 13 (kd (PK r) 0) = p0 at hN0 q0 HN
  generalize joT [44, 32] (((PK r).drop 1).map (atT 0)) = p1 at hA0 hzj HN
  clear hK hkid hC hz hKd k0
  generalize r[0] = x0 at *
  generalize r.length = len at *
  obtain ⟨ka, ta, na, la, ra⟩ := x0
  rw [show o + 0 * 5 = o by omega] at v0
  have H0 : Hid (∀ W : World, Below w.heap.size w W → Calls Tryz.prog 14 #[.agg #[.int .i64 ka, .string ta, .int .i64 na, .int .i64 la, .slice A0 ra.length cap0], .int .i64 (13 : Int)] W fun e w' => e = .returned (.string p0) ∧ Below W.heap.size W w') := Lib.hid hN0
  clear hN0
  have i1 : (1 : Int) ≤ (len : Int) := by omega
  have i2 : (len : Int) ≤ (cap : Int) := by omega
  by_cases hc : cap = 1
  · have H1 : Hid (∀ W : World, Below w.heap.size w W → Calls Tryz.prog 52 #[.slice (some ⟨b, o, none⟩) (len - 1) (cap - 1), .string ⟨#[44, 32]⟩] W fun e w' => e = .returned (.string p1) ∧ Below W.heap.size W w') := Lib.hid fun W hW => by have h := hA0 W hW; rw [if_pos hc] at h; exact h
    clear hA0
    have hlen1 : len = 1 := by omega
    subst hc hlen1
    go_enter Tryz.func30, Tryz.ntmps30
    go_upto_region 33 with fail
    generalize hW1 : w.alloc (.cells #[.int .i64 10, .string t, .int .i64 n, .int .i64 l, .slice (some ⟨b, o, none⟩) 1 1] 46) = w1
    have hbb : Below w.heap.size w w1 := by rw [← hW1]; repeat (first | exact Below.refl _ _ | refine Below.drew ?_ | refine Below.setCell ?_ (by (try simp); try omega) _ | refine Below.alloc ?_ (by (try simp); try omega) _)
    have hv : Var w1 w.heap.size 10 t n l (.slice (some ⟨b, o, none⟩) 1 1) := by rw [← hW1]; exact Var.new w 10 t n l _ 46
    clear hW1
    have hzz := hbb.size
    have u0 := v0.below hbb hbw
    obtain ⟨a0, a1, a2, a3, a4⟩ := id u0
    obtain ⟨e0, e1, e2, e3', e4⟩ := id hv
    clear v0
    have g0 : ¬ 9223372036854775807 < p0.size + 1 := by omega
    have g1 : ¬ 9223372036854775807 < p0.size + 1 + p1.size := by omega
    have g2 : ¬ 9223372036854775807 < p0.size + 1 + p1.size + 1 := by omega
    have HU := Lib.hid (And.intro hv u0)
    clear hv u0
    go_region_held3 (fun w' => ((w'.cell? ⟨w.heap.size, 1, none⟩ = some (.string t) ∧ w'.cell? ⟨w.heap.size, 4, none⟩ = some (.slice (some ⟨b, o, none⟩) 1 1)) ∧ (w'.cell? ⟨b, o, none⟩ = some (.int .i64 ka) ∧ w'.cell? ⟨b, o + 1, none⟩ = some (.string ta) ∧ w'.cell? ⟨b, o + 2, none⟩ = some (.int .i64 na) ∧ w'.cell? ⟨b, o + 3, none⟩ = some (.int .i64 la) ∧ w'.cell? ⟨b, o + 4, none⟩ = some (.slice A0 ra.length cap0)))) ((refine keepP1 HU.out ?_; repeat (first | exact Below.refl _ _ | refine Below.drew ?_ | refine Below.alloc ?_ (by (try simp); try omega) _ | refine Below.trans ?_ (hb3.mono (by (try simp); try omega)) | refine Below.trans ?_ (hb4.mono (by (try simp); try omega)) | refine Below.trans ?_ (hb5.mono (by (try simp); try omega)))))
      (first
        | (go_at_call 52; have tok := hb3; refine (H1.out _ (by repeat (first | exact hbb | refine Below.drew ?_ | refine Below.setCell ?_ (by (try simp); try omega) _ | refine Below.alloc ?_ (by (try simp); try omega) _))).mono ?_; rintro e w4 ⟨rfl, hb4⟩; have hbb := growT (w := w) (by repeat (first | exact hbb | refine Below.drew ?_ | refine Below.setCell ?_ (by (try simp); try omega) _ | refine Below.alloc ?_ (by (try simp); try omega) _)) hb4; have hzz := hbb.size; have hs4 := hb4.size; (try simp at hs4))
        | (go_at_call 14; refine (H0.out _ (by repeat (first | exact hbb | refine Below.drew ?_ | refine Below.setCell ?_ (by (try simp); try omega) _ | refine Below.alloc ?_ (by (try simp); try omega) _))).mono ?_; rintro e w3 ⟨rfl, hb3⟩; have hbb := growT (w := w) (by repeat (first | exact hbb | refine Below.drew ?_ | refine Below.setCell ?_ (by (try simp); try omega) _ | refine Below.alloc ?_ (by (try simp); try omega) _)) hb3; have hzz := hbb.size; have hs3 := hb3.size; (try simp at hs3)))
    all_goals
      go_wp2_with fail
      go_ret
      exact ⟨ret_s HN.out.symm, by repeat (first | exact hbb | refine Below.drew ?_ | refine Below.setCell ?_ (by (try simp); try omega) _ | refine Below.alloc ?_ (by (try simp); try omega) _)⟩
  · have H1 : Hid (∀ W : World, Below w.heap.size w W → Calls Tryz.prog 52 #[.slice (some ⟨b, o + 5, none⟩) (len - 1) (cap - 1), .string ⟨#[44, 32]⟩] W fun e w' => e = .returned (.string p1) ∧ Below W.heap.size W w') := Lib.hid fun W hW => by have h := hA0 W hW; rw [if_neg hc] at h; exact h
    clear hA0
    go_enter Tryz.func30, Tryz.ntmps30
    go_upto_region 33 with fail
    generalize hW1 : w.alloc (.cells #[.int .i64 10, .string t, .int .i64 n, .int .i64 l, .slice (some ⟨b, o, none⟩) len cap] 46) = w1
    have hbb : Below w.heap.size w w1 := by rw [← hW1]; repeat (first | exact Below.refl _ _ | refine Below.drew ?_ | refine Below.setCell ?_ (by (try simp); try omega) _ | refine Below.alloc ?_ (by (try simp); try omega) _)
    have hv : Var w1 w.heap.size 10 t n l (.slice (some ⟨b, o, none⟩) len cap) := by rw [← hW1]; exact Var.new w 10 t n l _ 46
    clear hW1
    have hzz := hbb.size
    have u0 := v0.below hbb hbw
    obtain ⟨a0, a1, a2, a3, a4⟩ := id u0
    obtain ⟨e0, e1, e2, e3', e4⟩ := id hv
    clear v0
    have g0 : ¬ 9223372036854775807 < p0.size + 1 := by omega
    have g1 : ¬ 9223372036854775807 < p0.size + 1 + p1.size := by omega
    have g2 : ¬ 9223372036854775807 < p0.size + 1 + p1.size + 1 := by omega
    have HU := Lib.hid (And.intro hv u0)
    clear hv u0
    go_region_held3 (fun w' => ((w'.cell? ⟨w.heap.size, 1, none⟩ = some (.string t) ∧ w'.cell? ⟨w.heap.size, 4, none⟩ = some (.slice (some ⟨b, o, none⟩) len cap)) ∧ (w'.cell? ⟨b, o, none⟩ = some (.int .i64 ka) ∧ w'.cell? ⟨b, o + 1, none⟩ = some (.string ta) ∧ w'.cell? ⟨b, o + 2, none⟩ = some (.int .i64 na) ∧ w'.cell? ⟨b, o + 3, none⟩ = some (.int .i64 la) ∧ w'.cell? ⟨b, o + 4, none⟩ = some (.slice A0 ra.length cap0)))) ((refine keepP1 HU.out ?_; repeat (first | exact Below.refl _ _ | refine Below.drew ?_ | refine Below.alloc ?_ (by (try simp); try omega) _ | refine Below.trans ?_ (hb3.mono (by (try simp); try omega)) | refine Below.trans ?_ (hb4.mono (by (try simp); try omega)) | refine Below.trans ?_ (hb5.mono (by (try simp); try omega)))))
      (first
        | (go_at_call 52; have tok := hb3; refine (H1.out _ (by repeat (first | exact hbb | refine Below.drew ?_ | refine Below.setCell ?_ (by (try simp); try omega) _ | refine Below.alloc ?_ (by (try simp); try omega) _))).mono ?_; rintro e w4 ⟨rfl, hb4⟩; have hbb := growT (w := w) (by repeat (first | exact hbb | refine Below.drew ?_ | refine Below.setCell ?_ (by (try simp); try omega) _ | refine Below.alloc ?_ (by (try simp); try omega) _)) hb4; have hzz := hbb.size; have hs4 := hb4.size; (try simp at hs4))
        | (go_at_call 14; refine (H0.out _ (by repeat (first | exact hbb | refine Below.drew ?_ | refine Below.setCell ?_ (by (try simp); try omega) _ | refine Below.alloc ?_ (by (try simp); try omega) _))).mono ?_; rintro e w3 ⟨rfl, hb3⟩; have hbb := growT (w := w) (by repeat (first | exact hbb | refine Below.drew ?_ | refine Below.setCell ?_ (by (try simp); try omega) _ | refine Below.alloc ?_ (by (try simp); try omega) _)) hb3; have hzz := hbb.size; have hs3 := hb3.size; (try simp at hs3)))
    all_goals
      go_wp2_with fail
      go_ret
      exact ⟨ret_s HN.out.symm, by repeat (first | exact hbb | refine Below.drew ?_ | refine Below.setCell ?_ (by (try simp); try omega) _ | refine Below.alloc ?_ (by (try simp); try omega) _)⟩
end X
end Go.Proofs.YtljblaglfooclaaGreatDoor

namespace Go.Proofs.YtljblaglfooclaaGreatDoor
open Go.RowKit
namespace X

/-- The first pairs of a case. -/
def prs (K : List Kp) (M : Nat) : List ByteArray := (List.range M).map fun q => atT 1 (kd K (1 + 2 * q)) ++ ⟨#[32, 58, 32]⟩ ++ atT 1 (kd K (1 + 2 * q + 1))
theorem prs_len (K : List Kp) (M : Nat) : (prs K M).length = M := by simp [prs]
theorem prs_succ (K : List Kp) (M : Nat) : prs K (M + 1) = prs K M ++ [atT 1 (kd K (1 + 2 * M)) ++ ⟨#[32, 58, 32]⟩ ++ atT 1 (kd K (1 + 2 * M + 1))] := by simp [prs, List.range_succ]
theorem prT_eq : ∀ (M : Nat) (L : List Kp), L.length = 2 * M → prT L = (List.range M).map fun q => atT 1 (kd L (2 * q)) ++ ⟨#[32, 58, 32]⟩ ++ atT 1 (kd L (2 * q + 1))
  | 0, L, h => by
    obtain rfl : L = [] := List.eq_nil_of_length_eq_zero (by omega)
    rfl
  | M + 1, [], h => by simp at h
  | M + 1, [a], h => by simp at h; omega
  | M + 1, a :: b :: L, h => by
    have ih := prT_eq M L (by simp at h; omega)
    rw [prT, ih, List.range_succ_eq_map, List.map_cons, List.map_map]
    congr 1
theorem kd_drop1 (K : List Kp) (i : Nat) : kd (K.drop 1) i = kd K (1 + i) := by
  unfold kd
  rw [List.getD_eq_getElem?_getD, List.getD_eq_getElem?_getD, List.getElem?_drop]
theorem kd_dropLast (K : List Kp) (i : Nat) (h : i < K.length - 1) : kd K.dropLast i = kd K i := by
  unfold kd
  rw [List.getD_eq_getElem?_getD, List.getD_eq_getElem?_getD, List.getElem?_dropLast, if_pos h]
theorem caT_0 {n : Int} (hn : n ≠ 1) (K : List Kp) (M : Nat) (h : K.length = 1 + 2 * M) : caT n K = prs K M := by
  unfold caT
  rw [if_neg hn, prT_eq M _ (by rw [List.length_drop]; omega)]
  unfold prs
  apply List.map_congr_left
  intro q _
  rw [kd_drop1, kd_drop1]; rfl
theorem caT_1 (K : List Kp) (M : Nat) (h : K.length = 2 + 2 * M) : caT 1 K = prs K M ++ [⟨#[100, 101, 102, 97, 117, 108, 116, 32, 58, 32]⟩ ++ atT 1 (kd K (1 + 2 * M))] := by
  unfold caT
  rw [if_pos rfl, prT_eq M _ (by rw [List.length_dropLast, List.length_drop]; omega), show K.length - 1 = 1 + 2 * M by omega]
  congr 1
  unfold prs
  apply List.map_congr_left
  intro q hq
  have hq' : q < M := by simpa using hq
  rw [kd_dropLast _ _ (by rw [List.length_drop]; omega), kd_dropLast _ _ (by rw [List.length_drop]; omega), kd_drop1, kd_drop1]; rfl
theorem step_appendS {ops : Array Oper} {o : Oper} {a : Act} {K : Act → World → Prop} {Q : Exit → Act → World → Prop} {F : Prop} {w W : World} {cs : Array Value} (hgd : o.guard = none) (s x : Operand)
    (ho : o.op = .call { callee := .builtin .append, args := #[s, x], argTypes := #[23, 23] })
    {B : Nat} {v : Value} {l : List ByteArray} (hs : a.eval s = v) (hown : SBuf w B v l) {g : Nat} (hx : a.eval x = .slice (some ⟨g, 0, none⟩) 1 1) (hg : g = w.heap.size)
    (hW : W.heap = (w.alloc (.cells cs 9)).heap ∧ W.os = w.os ∧ W.tape = w.tape ∧ W.output = w.output)
    (q : ByteArray) (hcs : cs.toList = [.string q]) (hlen : l.length ≤ 1048576) (hB : B ≤ w.heap.size)
    (h : ∀ v' w', SBuf w' B v' (l ++ [q]) → Below B w w' → K (a.put o.dst v') w') :
    if Region.wanted o (yielded ops a.tmps) = true then Oper.wp Tryz.prog o a W K Q else F := by
  refine step_append_g info_str rfl (by omega) Tryz.underlying23 hgd s x ho hs hown hx hg hW [.string q] hcs rfl (by intro u hu; simp at hu; subst hu; rfl) (by unfold maxLen; omega) (by omega) hB fun g' cap' w' h1 h2 _ => h _ w' ?_ ?_
  · unfold SBuf; rw [textsV_append, List.length_append]; exact h1
  · exact below_grown (Below.refl _ _) hB h2 fun k hk => (hown.lt k hk).1
theorem keepQ {w w' : World} {g b o1 o2 : Nat} {k : Int} {t : ByteArray} {n l : Int} {s : Value} {x0 x1 : X} {s0 s1 : Value} (h : Var w g k t n l s ∧ VarO w b o1 x0 s0 ∧ VarO w b o2 x1 s1) (hbg : b < g + 1) (hb : Below (g + 1) w w') :
    (w'.cell? ⟨g, 2, none⟩ = some (.int .i64 n) ∧ w'.cell? ⟨g, 4, none⟩ = some s) ∧ VarO w' b o1 x0 s0 ∧ VarO w' b o2 x1 s1 :=
  ⟨⟨(h.1.below hb (Nat.lt_succ_self g)).2.2.1, (h.1.below hb (Nat.lt_succ_self g)).2.2.2.2⟩, h.2.1.below hb hbg, h.2.2.below hb hbg⟩
end X
end Go.Proofs.YtljblaglfooclaaGreatDoor
