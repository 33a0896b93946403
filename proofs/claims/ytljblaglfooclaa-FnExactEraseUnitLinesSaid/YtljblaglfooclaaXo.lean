/- Proved here: an argument that reads as an expression is a tree of expressions that lies in memory. No condition. -/
import Derived.Test.YtljblaglfooclaaXm
import Derived.Deep.Slices
import Derived.Deep.Fields
import Derived.ChangeSame
namespace Go.Proofs.Ytljblaglfooclaa
open Go.RowKit Go.ChangeShapes Go.WideShapes Go.Deep
namespace X

theorem pick_all {Q : Nat → X → Value → Prop} : ∀ {n : Nat}, (∀ i, i < n → ∃ x s, Q i x s) → ∃ (r : List X) (S : List Value), r.length = n ∧ S.length = n ∧ ∀ i (h : i < r.length) s, S[i]? = some s → Q i r[i] s
  | 0, _ => ⟨[], [], rfl, rfl, fun i h => by simp at h⟩
  | n + 1, h => by
    obtain ⟨r, S, hr, hS, hq⟩ := pick_all (n := n) fun i hi => h i (by omega)
    obtain ⟨x, s, hx⟩ := h n (by omega)
    refine ⟨r ++ [x], S ++ [s], by simp [hr], by simp [hS], fun i hi u hu => ?_⟩
    by_cases e : i = n
    · subst e
      rw [List.getElem?_append_right (by omega), hS, Nat.sub_self] at hu
      simp at hu
      subst hu
      rw [List.getElem_append_right (by omega)]
      simpa [hr] using hx
    · have hi' : i < n := by simp at hi; omega
      rw [List.getElem?_append_left (by omega)] at hu
      rw [List.getElem_append_left (by omega)]
      exact hq i (by omega) u hu
theorem WfL_of : ∀ {r : List X}, (∀ i (h : i < r.length), Wf r[i]) → WfL r
  | [], _ => trivial
  | x :: r, h => ⟨h 0 (by simp), WfL_of fun i hi => h (i + 1) (by simpa using hi)⟩
section
variable {H : Type} {enc : TypeId × Value → H} {w : World} {spare : Nat → Bool} {held : Bool}
theorem size_x : Try.prog.cellsOf 61 = 5 := by kernel_rfl
theorem size_int : Try.prog.cellsOf 3 = 1 := by kernel_rfl
theorem size_str : Try.prog.cellsOf 9 = 1 := by kernel_rfl
theorem size_xs : Try.prog.cellsOf 59 = 1 := by kernel_rfl
set_option maxRecDepth 20000 in
theorem open_x : ∀ (fuel : Nat) (cs : List Value) (d : DataW H × List MemPlace), DataW.trod enc Try.prog w 0 spare held fuel 61 cs = some d → ∃ x s, cs = cells5 x s ∧ Wf x ∧ Rd w (· < w.heap.size) x s := by
  intro fuel
  induction fuel using Nat.strongRecOn with
  | ind fuel ih =>
    intro cs d h
    obtain ⟨xs, n, rfl, -, hlen, hxl, hg⟩ := DataW.trod_struct Try.underlying61 h
    match cs, hlen.trans size_x, xs, hxl with
    | [c0, c1, c2, c3, c4], _, [y0, y1, y2, y3, y4], _ =>
      have t0 : DataW.trod enc Try.prog w 0 spare held n 3 [c0] = some y0 := by simpa [size_int] using hg 0 _ rfl
      have t1 : DataW.trod enc Try.prog w 0 spare held n 9 [c1] = some y1 := by simpa [size_str] using hg 1 _ rfl
      have t2 : DataW.trod enc Try.prog w 0 spare held n 3 [c2] = some y2 := by simpa [size_int] using hg 2 _ rfl
      have t3 : DataW.trod enc Try.prog w 0 spare held n 3 [c3] = some y3 := by simpa [size_int] using hg 3 _ rfl
      have t4 : DataW.trod enc Try.prog w 0 spare held n 59 [c4] = some y4 := by simpa [size_xs] using hg 4 _ rfl
      clear hg h
      obtain ⟨k, ek, _, wk⟩ := DataW.trod_int Try.underlying3 t0
      obtain ⟨t, et, _, wt⟩ := DataW.trod_string Try.underlying9 t1
      obtain ⟨m, em, _, wm⟩ := DataW.trod_int Try.underlying3 t2
      obtain ⟨l, el, _, wl⟩ := DataW.trod_int Try.underlying3 t3
      simp only [List.cons.injEq, and_true] at ek et em el
      subst ek et em el
      have hk := int_bd wk
      have hm := int_bd wm
      have hl := int_bd wl
      rcases DataW.trod_slice Try.underlying59 t4 with ⟨e, _⟩ | ⟨a, len, cap, elems, rest, n', rfl, e, _, _, hlc, hcm, hel, hat, _, _⟩
      · simp only [List.cons.injEq, and_true] at e
        subst e
        exact ⟨.mk k t m l [], .slice none 0 0, rfl, ⟨hk, wt, hm, hl, by simp, trivial⟩, ⟨none, 0, [], rfl, fun h => by simp at h, rfl⟩⟩
      · simp only [List.cons.injEq, and_true] at e
        subst e
        have hpick : ∀ i, i < len → ∃ x s, (Wf x ∧ Rd w (· < w.heap.size) x s) ∧ ∀ j u, (cells5 x s)[j]? = some u → w.cell? ((a.add (i * 5)).add j) = some u := by
          intro i hi
          have h1 := hat i hi
          rw [List.getElem?_eq_getElem (by omega), size_x] at h1
          cases hc : w.cells? 0 (a.add (i * 5)) 5 with
          | none => rw [hc] at h1; cases h1
          | some cs' =>
            rw [hc] at h1
            obtain ⟨x, s, rfl, hw, hr⟩ := ih n' (by omega) cs' _ h1
            obtain ⟨_, _, hcell⟩ := World.cells?_some hc
            refine ⟨x, s, ⟨hw, hr⟩, fun j u hu => ?_⟩
            have hj : j < 5 := by
              rcases Nat.lt_or_ge j 5 with h | h
              · exact h
              · rw [List.getElem?_eq_none (by simpa [cells5] using h)] at hu; cases hu
            rw [hcell j hj]; exact hu
        obtain ⟨r, S, hr, hS, hq⟩ := pick_all hpick
        have hrow : RowAt w (· < w.heap.size) (some a) r S := by
          intro h0
          have hc0 := (hq 0 h0 S[0] (by simp)).2 0 _ rfl
          have hsp : a.spot = none := by simpa [Addr.add] using World.cell?_spot hc0
          obtain ⟨b, o, sp⟩ := a
          simp only at hsp
          subst hsp
          refine ⟨b, o, rfl, ?_, fun i hi s hs j u hu => ?_⟩
          · have := World.block_lt_of_cell? _ _ hc0
            simpa [Addr.add] using this
          · have := (hq i hi s hs).2 j u hu
            have e : ((⟨b, o, none⟩ : Addr).add (i * 5)).add j = ⟨b, o + i * 5 + j, none⟩ := by unfold Addr.add; split <;> split <;> simp_all
            rwa [e] at this
        exact ⟨.mk k t m l r, .slice (some a) len cap, rfl, ⟨hk, wt, hm, hl, by omega, WfL_of fun i hi => (hq i hi S[i] (by simp)).1.1⟩, ⟨some a, cap, S, by rw [hr], hrow, RdL.of (by omega) fun i hi s hs => (hq i hi s hs).1.2⟩⟩
set_option maxRecDepth 20000 in
theorem open_arg {r : Reach} {b0 : Nat} {v : Value} {d : DataW H} {p : List MemPlace} (hv : Value.okWide Try.prog w r b0 61 v) (h : DataW.Trod enc Try.prog w 0 spare held 61 v d p) : ∃ x s, v = val x s ∧ Wf x ∧ Rd w (· < w.heap.size) x s := by
  obtain ⟨cs, rfl, _⟩ := okWide_struct Try.underlying61 hv
  obtain ⟨fuel, hf⟩ := h
  obtain ⟨x, s, e, hw, hr⟩ := open_x fuel _ _ hf
  refine ⟨x, s, ?_, hw, hr⟩
  obtain ⟨l⟩ := cs
  simp only [Value.cells] at e
  subst e
  rfl
end
end X
end Go.Proofs.Ytljblaglfooclaa
