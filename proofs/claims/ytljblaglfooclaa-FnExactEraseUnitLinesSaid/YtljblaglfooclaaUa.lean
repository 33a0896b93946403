/- Proved here: append of a list of texts to an empty slice that was just made gives a copy of the call's own. Condition: the list fits. -/
import Derived.Test.YtljblaglfooclaaUl
namespace Go.Proofs.Ytljblaglfooclaa
open Go.RowKit

theorem ownsRow_empty {W : World} {g : Nat} (hblk : Blk W g 9 #[]) : SBuf W g (.slice (some ⟨g, 0, none⟩) 0 0) [] :=
  ⟨rfl, .inr ⟨g, 0, #[], rfl, Nat.le_refl _, hblk, Nat.le_refl _, Nat.zero_le _, rfl, rfl⟩⟩
theorem run_copy (W : World) (ty : TypeId) {g B' : Nat} (hblk : Blk W g 9 #[]) {sx : Value} {l : List ByteArray} (hsx : SBuf W B' sx l) (hlen : l.length ≤ 1099511627776) :
    ∃ b cap w', (Builtin.append_ #[23, 23] ty #[.slice (some ⟨g, 0, none⟩) 0 0, sx]).run Try.prog W = .ok (.slice (some ⟨b, 0, none⟩) l.length cap) w' ∧ SBuf w' g (.slice (some ⟨b, 0, none⟩) l.length cap) l ∧
      Below W.heap.size W w' ∧ (b = g ∨ (b = W.heap.size ∧ W.heap.size < w'.heap.size)) := by
  obtain ⟨i0, hi, hz0, hz1, hz2⟩ := info_parts info_str
  have hown := ownsRow_empty hblk
  have hgl := hblk.lt
  have ht := Try.underlying23
  by_cases h0 : l.length = 0
  · have hl0 : l = [] := List.eq_nil_of_length_eq_zero h0
    subst hl0
    refine ⟨g, 0, W, ?_, hown, Below.refl _ _, .inl rfl⟩
    rcases hsx.2 with ⟨rfl, _⟩ | ⟨g2, cap, cur, rfl, _⟩
    · exact run_append_owned_none (P := Try.prog) W g 23 ty 9 i0 1 ht hi _ 0 [] hown
    · simp [Builtin.append_, run_underlying ht, sizeOf, typeInfo, hi, Builtin.lenOf, Builtin.firstCells, loadCells, loadCellsFrom, storeCells]
  · rcases hsx.2 with ⟨_, h⟩ | ⟨g2, cap, cur, rfl, hb2, hh2, rest⟩
    · exact absurd h h0
    · have hcells : ∀ j u, (textsV l)[j]? = some u → W.cell? ((⟨g2, 0, none⟩ : Addr).add j) = some u := fun j u hu => World.ownsRow.cells hsx (g := g2) rfl j u hu
      have hl1 : (textsV l).length = l.length * i0.size := by rw [textsV_length, hz1, Nat.mul_one]
      have hr := run_append_grow (P := Try.prog) (w := W) 23 ty 9 i0 _ ht hi hz0 ⟨g, 0, none⟩ 0 0 [] (by simp) (fun j v h => by simp at h) ⟨g2, 0, none⟩ l.length cap (textsV l) hl1 hcells (by omega) (by omega)
        (by rw [nextslicecap_zero (by omega), hz2]; omega)
      obtain ⟨g', cap', w', hr2, ho2, _, hor, _⟩ := run_append_lies (P := Try.prog) W 23 ty g 9 i0 (.string ⟨#[]⟩) 1 16 ht hi hz0 hz1 hz2 rfl (by omega) _ 0 [] hown ⟨g2, 0, none⟩ l.length cap (textsV l) (by rw [textsV_length, Nat.mul_one]) hcells textsV_one (by omega) (by unfold maxLen; omega) (by omega) (by omega) W.heap.size rfl
      rw [hr] at hr2
      simp only [Nat.zero_add] at hr hr2 ho2
      injection hr2 with e1 e2
      simp only [Value.slice.injEq, Option.some.injEq, Addr.mk.injEq, and_true, true_and] at e1
      obtain ⟨e1, e3⟩ := e1
      subst e1 e2 e3
      refine ⟨_, _, _, hr, ?_, ?_, .inr ⟨rfl, by simp⟩⟩
      · simpa [SBuf] using ho2
      · exact Below.alloc (Below.drew (Below.refl _ _)) (by simp) _
/-- append of texts to an empty slice, at the operation. -/
theorem wp_copy {o : Oper} {a : Act} {K : Act → World → Prop} {Q : Exit → Act → World → Prop} {W : World} (s x : Operand)
    (ho : o.op = .call { callee := .builtin .append, args := #[s, x], argTypes := #[23, 23] })
    {g B' : Nat} (hs : a.eval s = .slice (some ⟨g, 0, none⟩) 0 0) (hblk : Blk W g 9 #[]) {sx : Value} {l : List ByteArray} (hx : a.eval x = sx) (hsx : SBuf W B' sx l) (hlen : l.length ≤ 1099511627776)
    (h : ∀ b cap w', SBuf w' g (.slice (some ⟨b, 0, none⟩) l.length cap) l → Below W.heap.size W w' → (b = g ∨ (b = W.heap.size ∧ W.heap.size < w'.heap.size)) → K (a.put o.dst (.slice (some ⟨b, 0, none⟩) l.length cap)) w') : o.wp Try.prog a W K Q := by
  obtain ⟨b, cap, w', hr, h1, h2, h3⟩ := run_copy W o.type hblk hsx hlen
  unfold Oper.wp execOp
  simp only [ho, resolve, invoke, builtin, Sem.run_bind, Sem.run_pure, Result.andThen_ok, List.map_toArray, List.map_cons, List.map_nil, hs, hx, hr]
  exact h b cap w' h1 h2 h3
theorem wpList_copy {ops : Array Oper} {rest : List Oper} {o : Oper} {a : Act} {Q : Exit → Act → World → Prop} {W : World} (hgd : o.guard = none) (s x : Operand)
    (ho : o.op = .call { callee := .builtin .append, args := #[s, x], argTypes := #[23, 23] })
    {g B' : Nat} (hs : a.eval s = .slice (some ⟨g, 0, none⟩) 0 0) (hblk : Blk W g 9 #[]) {sx : Value} {l : List ByteArray} (hx : a.eval x = sx) (hsx : SBuf W B' sx l) (hlen : l.length ≤ 1099511627776)
    (h : ∀ b cap w', SBuf w' g (.slice (some ⟨b, 0, none⟩) l.length cap) l → Below W.heap.size W w' → (b = g ∨ (b = W.heap.size ∧ W.heap.size < w'.heap.size)) → wpList Try.prog ops Q rest (a.put o.dst (.slice (some ⟨b, 0, none⟩) l.length cap)) w') : wpList Try.prog ops Q (o :: rest) a W :=
  wpList_plain hgd fun _ hK => wp_copy s x ho hs hblk hx hsx hlen fun b cap w' h1 h2 h3 => hK _ _ (h b cap w' h1 h2 h3)
theorem step_copy {ops : Array Oper} {o : Oper} {a : Act} {K : Act → World → Prop} {Q : Exit → Act → World → Prop} {F : Prop} {W : World} (hgd : o.guard = none) (s x : Operand)
    (ho : o.op = .call { callee := .builtin .append, args := #[s, x], argTypes := #[23, 23] })
    {g B' : Nat} (hs : a.eval s = .slice (some ⟨g, 0, none⟩) 0 0) (hblk : Blk W g 9 #[]) {sx : Value} {l : List ByteArray} (hx : a.eval x = sx) (hsx : SBuf W B' sx l) (hlen : l.length ≤ 1099511627776)
    (h : ∀ b cap w', SBuf w' g (.slice (some ⟨b, 0, none⟩) l.length cap) l → Below W.heap.size W w' → (b = g ∨ (b = W.heap.size ∧ W.heap.size < w'.heap.size)) → K (a.put o.dst (.slice (some ⟨b, 0, none⟩) l.length cap)) w') :
    if Region.wanted o (yielded ops a.tmps) = true then Oper.wp Try.prog o a W K Q else F := by
  have hw : Region.wanted o (yielded ops a.tmps) = true := by simp [Region.wanted, hgd]
  rw [if_pos hw]
  exact wp_copy s x ho hs hblk hx hsx hlen h
end Go.Proofs.Ytljblaglfooclaa
