/- Proved here: an argument that reads as a unit is a unit that lies in memory. No condition. -/
import Derived.Test.YtljblaglfooclaaUn
import Derived.Test.YtljblaglfooclaaXo
namespace Go.Proofs.Ytljblaglfooclaa
open Go.RowKit Go.ChangeShapes Go.WideShapes Go.Deep

theorem pick_one {α : Type} {Q : Nat → α → Prop} : ∀ {n : Nat}, (∀ i, i < n → ∃ x, Q i x) → ∃ r : List α, r.length = n ∧ ∀ i (h : i < r.length), Q i r[i]
  | 0, _ => ⟨[], rfl, fun i h => by simp at h⟩
  | n + 1, h => by
    obtain ⟨r, hr, hq⟩ := pick_one (n := n) fun i hi => h i (by omega)
    obtain ⟨x, hx⟩ := h n (by omega)
    refine ⟨r ++ [x], by simp [hr], fun i hi => ?_⟩
    by_cases e : i = n
    · subst e
      rw [List.getElem_append_right (by omega)]
      simpa [hr] using hx
    · have hi' : i < n := by simp at hi; omega
      rw [List.getElem_append_left (by omega)]
      exact hq i (by omega)
section
variable {H : Type} {enc : TypeId × Value → H} {w : World} {spare : Nat → Bool} {held : Bool}
/-- A slice of structs of z cells that came in. -/
theorem open_rows {T E : TypeId} {z fuel : Nat} {c : Value} {d : DataW H × List MemPlace} {Q : List Value → Prop} (hU : Try.prog.underlying T = some (.slice E)) (hz : Try.prog.cellsOf E = z) (hz0 : 0 < z)
    (hQ : ∀ fuel cs d, DataW.trod enc Try.prog w 0 spare held fuel E cs = some d → Q cs) (h : DataW.trod enc Try.prog w 0 spare held fuel T [c] = some d) :
    ∃ A len cap, c = .slice A len cap ∧ len ≤ maxLen ∧ (0 < len → ∃ b o, A = some ⟨b, o, none⟩ ∧ b < w.heap.size ∧ ∀ i, i < len → ∃ cs : List Value, Q cs ∧ ∀ j u, j < z → cs[j]? = some u → w.cell? ⟨b, o + i * z + j, none⟩ = some u) := by
  rcases DataW.trod_slice hU h with ⟨e, _⟩ | ⟨a, len, cap, elems, rest, n', rfl, e, _, _, hlc, hcm, hel, hat, _, _⟩
  · simp only [List.cons.injEq, and_true] at e
    exact ⟨none, 0, 0, e, by simp, fun h => by omega⟩
  · simp only [List.cons.injEq, and_true] at e
    refine ⟨some a, len, cap, e, by omega, fun h0 => ?_⟩
    have hpick : ∀ i, i < len → ∃ cs : List Value, cs.length = z ∧ Q cs ∧ ∀ j u, j < z → cs[j]? = some u → w.cell? ((a.add (i * z)).add j) = some u := by
      intro i hi
      have h1 := hat i hi
      rw [List.getElem?_eq_getElem (by omega), hz] at h1
      cases hc : w.cells? 0 (a.add (i * z)) z with
      | none => rw [hc] at h1; cases h1
      | some cs' =>
        rw [hc] at h1
        obtain ⟨_, hlen, hcell⟩ := World.cells?_some hc
        exact ⟨cs', by simpa using hlen, hQ _ _ _ h1, fun j u hj hu => by rw [hcell j hj]; exact hu⟩
    obtain ⟨cs0, hl0, _, hc0⟩ := hpick 0 h0
    have hc0 := hc0 0 cs0[0] hz0 (by simp)
    have hsp : a.spot = none := by simpa [Addr.add] using World.cell?_spot hc0
    obtain ⟨b, o, sp⟩ := a
    simp only at hsp
    subst hsp
    refine ⟨b, o, rfl, ?_, fun i hi => ?_⟩
    · have := World.block_lt_of_cell? _ _ hc0
      simpa [Addr.add] using this
    · obtain ⟨cs, _, hq, hcs⟩ := hpick i hi
      refine ⟨cs, hq, fun j u hj hu => ?_⟩
      have := hcs j u hj hu
      have e : ((⟨b, o, none⟩ : Addr).add (i * z)).add j = ⟨b, o + i * z + j, none⟩ := by unfold Addr.add; split <;> split <;> simp_all
      rwa [e] at this
theorem size_rt : Try.prog.cellsOf 57 = 3 := by kernel_rfl
theorem size_ss : Try.prog.cellsOf 23 = 1 := by kernel_rfl
set_option maxRecDepth 20000 in
theorem open_rt (fuel : Nat) (cs : List Value) (d : DataW H × List MemPlace) (h : DataW.trod enc Try.prog w 0 spare held fuel 57 cs = some d) :
    ∃ (a : Rt) (s : Value), cs = [.string a.t, s, .int .i64 a.l] ∧ a.Wf ∧ Sr w (· < w.heap.size) s a.f := by
  obtain ⟨xs, n, rfl, -, hlen, hxl, hg⟩ := DataW.trod_struct Try.underlying57 h
  match cs, hlen.trans size_rt, xs, hxl with
  | [c0, c1, c2], _, [y0, y1, y2], _ =>
    have t0 : DataW.trod enc Try.prog w 0 spare held n 9 [c0] = some y0 := by simpa [X.size_str] using hg 0 _ rfl
    have t1 : DataW.trod enc Try.prog w 0 spare held n 23 [c1] = some y1 := by simpa [size_ss] using hg 1 _ rfl
    have t2 : DataW.trod enc Try.prog w 0 spare held n 3 [c2] = some y2 := by simpa [X.size_int] using hg 2 _ rfl
    clear hg h
    obtain ⟨t, et, _, wt⟩ := DataW.trod_string Try.underlying9 t0
    obtain ⟨f, hf, hfl, hfw⟩ := open_srC t1
    obtain ⟨l, el, _, _⟩ := DataW.trod_int Try.underlying3 t2
    simp only [List.cons.injEq, and_true] at et el
    subst et el
    exact ⟨⟨t, f, l⟩, c1, rfl, ⟨wt, hfl, hfw⟩, hf⟩
theorem size_pd : Try.prog.cellsOf 63 = 9 := by kernel_rfl
set_option maxRecDepth 20000 in
theorem open_pd (fuel : Nat) (cs : List Value) (d : DataW H × List MemPlace) (h : DataW.trod enc Try.prog w 0 spare held fuel 63 cs = some d) :
    ∃ (a : Pd) (s1 s2 s3 : Value), cs = [.string a.t, s1, s2, .int .i64 a.x.k, .string a.x.t, .int .i64 a.x.n, .int .i64 a.x.l, s3, .int .i64 a.l] ∧ a.Wf ∧ Sr w (· < w.heap.size) s1 a.p ∧ Sr w (· < w.heap.size) s2 a.q ∧ X.Kd w (· < w.heap.size) a.x.r s3 := by
  obtain ⟨xs, n, rfl, -, hlen, hxl, hg⟩ := DataW.trod_struct Try.underlying63 h
  match cs, hlen.trans size_pd, xs, hxl with
  | [c0, c1, c2, c3, c4, c5, c6, c7, c8], _, [y0, y1, y2, y3, y4], _ =>
    have t0 : DataW.trod enc Try.prog w 0 spare held n 9 [c0] = some y0 := by simpa [X.size_str, size_ss, X.size_x, X.size_int] using hg 0 _ rfl
    have t1 : DataW.trod enc Try.prog w 0 spare held n 23 [c1] = some y1 := by simpa [X.size_str, size_ss, X.size_x, X.size_int] using hg 1 _ rfl
    have t2 : DataW.trod enc Try.prog w 0 spare held n 23 [c2] = some y2 := by simpa [X.size_str, size_ss, X.size_x, X.size_int] using hg 2 _ rfl
    have t3 : DataW.trod enc Try.prog w 0 spare held n 61 [c3, c4, c5, c6, c7] = some y3 := by simpa [X.size_str, size_ss, X.size_x, X.size_int] using hg 3 _ rfl
    have t4 : DataW.trod enc Try.prog w 0 spare held n 3 [c8] = some y4 := by simpa [X.size_str, size_ss, X.size_x, X.size_int] using hg 4 _ rfl
    clear hg h
    obtain ⟨t, et, _, wt⟩ := DataW.trod_string Try.underlying9 t0
    obtain ⟨p, hp, hpl, hpw⟩ := open_srC t1
    obtain ⟨q, hq, hql, hqw⟩ := open_srC t2
    obtain ⟨x, s, ex, hx, hr⟩ := X.open_x _ _ _ t3
    obtain ⟨l, el, _, _⟩ := DataW.trod_int Try.underlying3 t4
    simp only [X.cells5, List.cons.injEq, and_true] at et el ex
    obtain ⟨rfl, rfl, rfl, rfl, rfl⟩ := ex
    subst et el
    exact ⟨⟨t, p, q, x, l⟩, c1, c2, c7, rfl, ⟨wt, ⟨hpl, hpw⟩, ⟨hql, hqw⟩, hx⟩, hp, hq, hr.kids⟩
theorem size_un : Try.prog.cellsOf 26 = 3 := by kernel_rfl
theorem size_rts : Try.prog.cellsOf 22 = 1 := by kernel_rfl
theorem size_pds : Try.prog.cellsOf 24 = 1 := by kernel_rfl
set_option maxRecDepth 20000 in
theorem Un.open_arg {r : Reach} {b0 : Nat} {v : Value} {d : DataW H} {p : List MemPlace} (hv : Value.okWide Try.prog w r b0 26 v) (h : DataW.Trod enc Try.prog w 0 spare held 26 v d p) :
    ∃ (u : Un) (s1 s2 s3 : Value), v = .agg #[s1, s2, s3] ∧ u.Wf ∧ Urd X.Kd w (· < w.heap.size) u s1 s2 s3 := by
  obtain ⟨cs, rfl, _⟩ := okWide_struct Try.underlying26 hv
  obtain ⟨fuel, hf⟩ := h
  obtain ⟨cs⟩ := cs
  replace hf : DataW.trod enc Try.prog w 0 spare held fuel 26 cs = some (d, p) := hf
  show ∃ (u : Un) (s1 s2 s3 : Value), Value.agg ⟨cs⟩ = _ ∧ _
  obtain ⟨xs, n, e, -, hlen, hxl, hg⟩ := DataW.trod_struct Try.underlying26 hf
  match cs, hlen.trans size_un, xs, hxl with
  | [c0, c1, c2], _, [y0, y1, y2], _ =>
    have t0 : DataW.trod enc Try.prog w 0 spare held n 22 [c0] = some y0 := by simpa [size_rts, size_pds, size_ss] using hg 0 _ rfl
    have t1 : DataW.trod enc Try.prog w 0 spare held n 23 [c1] = some y1 := by simpa [size_rts, size_pds, size_ss] using hg 1 _ rfl
    have t2 : DataW.trod enc Try.prog w 0 spare held n 24 [c2] = some y2 := by simpa [size_rts, size_pds, size_ss] using hg 2 _ rfl
    clear hg hf
    obtain ⟨g, hgr, hgl, hgw⟩ := open_srC t1
    obtain ⟨A, len, cap, rfl, hrl, hrr⟩ := open_rows Try.underlying22 size_rt (by omega) (fun f cs d h => open_rt f cs d h) t0
    obtain ⟨A', len', cap', rfl, hpl, hpp⟩ := open_rows Try.underlying24 size_pd (by omega) (fun f cs d h => open_pd f cs d h) t2
    have hR : ∃ r : List Rt, r.length = len ∧ (∀ i (h : i < r.length), r[i].Wf) ∧ Rts w (· < w.heap.size) r (.slice A len cap) := by
      by_cases h0 : 0 < len
      · obtain ⟨b, o, rfl, hb, hc⟩ := hrr h0
        obtain ⟨r, hr, hq⟩ := pick_one (α := Rt) (Q := fun i a => a.Wf ∧ ∃ s1, Sr w (· < w.heap.size) s1 a.f ∧ w.cell? ⟨b, o + i * 3, none⟩ = some (.string a.t) ∧ w.cell? ⟨b, o + i * 3 + 1, none⟩ = some s1 ∧ w.cell? ⟨b, o + i * 3 + 2, none⟩ = some (.int .i64 a.l)) (n := len) (fun i hi => by
          obtain ⟨cs, ⟨a, s, rfl, hw, hs⟩, hcs⟩ := hc i hi
          exact ⟨a, hw, s, hs, hcs 0 _ (by omega) rfl, hcs 1 _ (by omega) rfl, hcs 2 _ (by omega) rfl⟩)
        exact ⟨r, hr, fun i h => (hq i h).1, _, _, by rw [hr], fun _ => ⟨b, o, rfl, hb, fun i h => (hq i h).2⟩⟩
      · exact ⟨[], by simp; omega, fun i h => by simp at h, A, cap, by simp; omega, fun h => by simp at h⟩
    have hP : ∃ r : List Pd, r.length = len' ∧ (∀ i (h : i < r.length), r[i].Wf) ∧ Pds X.Kd w (· < w.heap.size) r (.slice A' len' cap') := by
      by_cases h0 : 0 < len'
      · obtain ⟨b, o, rfl, hb, hc⟩ := hpp h0
        obtain ⟨r, hr, hq⟩ := pick_one (α := Pd) (Q := fun i a => a.Wf ∧ ∃ s1 s2 s3, Sr w (· < w.heap.size) s1 a.p ∧ Sr w (· < w.heap.size) s2 a.q ∧ X.Kd w (· < w.heap.size) a.x.r s3 ∧
            w.cell? ⟨b, o + i * 9, none⟩ = some (.string a.t) ∧ w.cell? ⟨b, o + i * 9 + 1, none⟩ = some s1 ∧ w.cell? ⟨b, o + i * 9 + 2, none⟩ = some s2 ∧ w.cell? ⟨b, o + i * 9 + 3, none⟩ = some (.int .i64 a.x.k) ∧ w.cell? ⟨b, o + i * 9 + 4, none⟩ = some (.string a.x.t) ∧ w.cell? ⟨b, o + i * 9 + 5, none⟩ = some (.int .i64 a.x.n) ∧
            w.cell? ⟨b, o + i * 9 + 6, none⟩ = some (.int .i64 a.x.l) ∧ w.cell? ⟨b, o + i * 9 + 7, none⟩ = some s3 ∧ w.cell? ⟨b, o + i * 9 + 8, none⟩ = some (.int .i64 a.l)) (n := len') (fun i hi => by
          obtain ⟨cs, ⟨a, s1, s2, s3, rfl, hw, h1, h2, h3⟩, hcs⟩ := hc i hi
          exact ⟨a, hw, s1, s2, s3, h1, h2, h3, hcs 0 _ (by omega) rfl, hcs 1 _ (by omega) rfl, hcs 2 _ (by omega) rfl, hcs 3 _ (by omega) rfl, hcs 4 _ (by omega) rfl, hcs 5 _ (by omega) rfl, hcs 6 _ (by omega) rfl, hcs 7 _ (by omega) rfl, hcs 8 _ (by omega) rfl⟩)
        exact ⟨r, hr, fun i h => (hq i h).1, _, _, by rw [hr], fun _ => ⟨b, o, rfl, hb, fun i h => (hq i h).2⟩⟩
      · exact ⟨[], by simp; omega, fun i h => by simp at h, A', cap', by simp; omega, fun h => by simp at h⟩
    obtain ⟨r, hr1, hr2, hr3⟩ := hR
    obtain ⟨q, hq1, hq2, hq3⟩ := hP
    exact ⟨⟨r, g, q⟩, _, _, _, rfl, ⟨⟨by show r.length ≤ _; omega, hr2⟩, ⟨hgl, hgw⟩, ⟨by show q.length ≤ _; omega, hq2⟩⟩, hr3, hgr, hq3⟩
end
end Go.Proofs.Ytljblaglfooclaa
