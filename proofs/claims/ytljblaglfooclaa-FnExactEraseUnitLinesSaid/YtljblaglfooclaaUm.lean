/- Proved here: what the law's markRecordTypeS, markProcedureS and markUnit leave of a unit of the call's own. Condition: the counters fit. -/
import Derived.Test.YtljblaglfooclaaUh
import Derived.Test.YtljblaglfooclaaUl
namespace Go.Proofs.Ytljblaglfooclaa
open Go.RowKit

section
variable {α : Type} {I : Hold α} {c : α → List Value} {z : Nat} {e : TypeId} {w w' wr : World} {B g n cap j : Nat} {L : List α}
theorem own_item (hc : ∀ a, (c a).length = z) (hn : n = L.length) (hj : j < L.length) {y : α} (h : w.ownsRow B e z (.slice (some ⟨g, 0, none⟩) n cap) n ((L.set j y).flatMap c)) (q : Nat) {u : Value} (hu : (c y)[q]? = some u) : w.cell? ⟨g, j * z + q, none⟩ = some u := by
  have hq : q < z := by
    rcases Nat.lt_or_ge q z with h | h
    · exact h
    · rw [List.getElem?_eq_none (by rw [hc]; exact h)] at hu; cases hu
  have hlt : j * z + q < n * z := by
    have h1 : (j + 1) * z ≤ n * z := Nat.mul_le_mul_right z (by omega)
    rw [Nat.succ_mul] at h1; omega
  rw [World.ownsRow.cellAt h (j * z + q) hlt, flat_get hc _ (i := j) (by rw [List.length_set]; exact hj) q hq, List.getElem_set_self]
  exact hu
theorem own_put (hc : ∀ a, (c a).length = z) (hj : j < L.length) {y : α} (h : w.ownsRow B e z (.slice (some ⟨g, 0, none⟩) n cap) n ((L.set j y).flatMap c)) (q : Nat) (hq : q < z) (v : Value) (y' : α) (hy : c y' = (c y).set q v) :
    (w.setCell ⟨g, j * z + q, none⟩ v).ownsRow B e z (.slice (some ⟨g, 0, none⟩) n cap) n ((L.set j y').flatMap c) := by
  have h1 := (World.ownsRow.stored h (j * z + q) v).1
  rwa [flat_set hc _ (i := j) (by rw [List.length_set]; exact hj) q hq v y' (by rw [List.getElem_set_self]; exact hy), List.set_set] at h1
theorem Ch.of_grown {s : Value} (h : w.grownBy w' s.ownBlock) : X.Ch (X.blkL s) w w' :=
  ⟨h.os, h.tape, h.output, h.size, fun b hb hF => h.block b hb fun e => hF (by unfold X.blkL; rw [← e]; simp)⟩
/-- A row one of whose items has turned, with what it owns. -/
theorem row_done (hI : IL I) {y : α} {G1 f G2 : List Nat} (o : w'.ownsRow B e z (.slice (some ⟨g, 0, none⟩) n cap) n ((L.set j y).flatMap c)) (hn : n = L.length) (hj : j < L.length)
    (h1 : OwG I wr B (L.take j) G1) (h2 : OwG I wr B (L.drop (j + 1)) G2) (hy : I w' B y f) (hnd : (g :: (G1 ++ (f ++ G2))).Nodup) (hch : X.Ch (g :: f) wr w') :
    OkG I e z c w' B (L.set j y) (.slice (some ⟨g, 0, none⟩) n cap) (g :: (G1 ++ (f ++ G2))) ∧ X.Ch (g :: (G1 ++ (f ++ G2))) wr w' := by
  rw [List.nodup_cons] at hnd
  obtain ⟨hg, hnd⟩ := hnd
  have d1 := List.nodup_append.1 hnd
  have d2 := List.nodup_append.1 d1.2.1
  refine ⟨⟨G1 ++ (f ++ G2), by rw [List.length_set, ← hn]; exact o, ?_, rfl⟩, hch.more fun x hx => ?_⟩
  · have k1 : OwG I w' B (L.take j) G1 := h1.keep hI fun b hb => hch.block b (h1.lt hI b hb).2 fun hm => by
      rcases List.mem_cons.1 hm with rfl | hm
      · exact hg (List.mem_append.2 (.inl hb))
      · exact d1.2.2 b hb b (List.mem_append.2 (.inl hm)) rfl
    have k2 : OwG I w' B (L.drop (j + 1)) G2 := h2.keep hI fun b hb => hch.block b (h2.lt hI b hb).2 fun hm => by
      rcases List.mem_cons.1 hm with rfl | hm
      · exact hg (List.mem_append.2 (.inr (List.mem_append.2 (.inr hb))))
      · exact d2.2.2 b hm b hb rfl
    have e2 : L.set j y = L.take j ++ ([y] ++ L.drop (j + 1)) := by
      conv => lhs; rw [← List.take_append_drop j L]
      rw [List.set_append_right _ _ (by rw [List.length_take]; omega), List.drop_eq_getElem_cons hj]
      have : j - (L.take j).length = 0 := by rw [List.length_take]; omega
      rw [this]; rfl
    rw [e2]
    exact OwG.append k1 (OwG.append (OwG.one hy) k2)
  · rcases List.mem_cons.1 hx with rfl | hx
    · exact List.mem_cons.2 (.inl rfl)
    · exact List.mem_cons.2 (.inr (List.mem_append.2 (.inr (List.mem_append.2 (.inl hx)))))
theorem row_at {α β : Type} {L : List (α × β)} {pre r : List α} {j : Nat} (hL : L.map Prod.fst = pre ++ r.drop j) (hp : pre.length = j) (hj : j < r.length) (hjL : j < L.length) : L[j].1 = r[j] := by
  have h := congrArg (fun l => l[j]?) hL
  simp only [List.getElem?_map, List.getElem?_eq_getElem hjL, Option.map_some] at h
  rw [List.getElem?_append_right (by omega), hp, Nat.sub_self, List.getElem?_drop, Nat.add_zero, List.getElem?_eq_getElem hj] at h
  exact Option.some.inj h
theorem map_set {α β : Type} {L : List (α × β)} {l : List α} (hL : L.map Prod.fst = l) (j : Nat) (y : α × β) : (L.set j y).map Prod.fst = l.set j y.1 := by rw [List.map_set, hL]
end
set_option maxRecDepth 20000 in
set_option maxHeartbeats 8000000 in
theorem markRtS (r : List Rt) (k0 B : Nat) (s : Value) (F : List Nat) (w : World) (hok : ORs 41 w B r s F) (hnd : F.Nodup) (hk0 : 0 < k0) (hkc : k0 + sumF Rt.cn r ≤ 1099511627776) (hl : r.length ≤ 1099511627776) :
    Calls Try.prog 22 #[s, .int .i64 (k0 : Int)] w fun e w' => e = .returned (.int .i64 ((k0 + sumF Rt.cn r : Nat) : Int)) ∧ ORs 41 w' B (mkG Rt.mark Rt.cn r k0) s F ∧ X.Ch F w w' := by
  obtain ⟨A, cap, rfl⟩ := hok.form
  go_enter Try.func22, Try.ntmps22
  go_wp2_with fail
  go_loopw [1, 5] (fun a i wr => ∃ j m : Nat, i = .int .i64 j ∧ a = .int .i64 m ∧ Hid (m = k0 + sumF Rt.cn (r.take j)) ∧ 0 < m ∧ m ≤ 1099511627776 ∧ j ≤ r.length ∧ Hid (ORs 41 wr B (mkG Rt.mark Rt.cn (r.take j) k0 ++ r.drop j) (.slice A r.length cap) F ∧ X.Ch F w wr))
    (fun _ i _ => r.length - (intOf i).toNat)
  case atStart => exact ⟨0, k0, rfl, rfl, Lib.hid (by simp [sumF]), by omega, by omega, by omega, Lib.hid ⟨by simpa [mkG] using hok, X.Ch.refl _ _⟩⟩
  case round =>
    obtain ⟨j, m, rfl, rfl, HM, hm0, hm, hj, HO⟩ := hrel
    by_cases hlt : j < r.length
    · obtain ⟨⟨L, hL, G, ho, hG, rfl⟩, hch⟩ := HO.out
      have hpl : (mkG Rt.mark Rt.cn (r.take j) k0).length = j := by rw [mkG_length, List.length_take]; omega
      have hLl : L.length = r.length := by have := congrArg List.length hL; rw [List.length_map, List.length_append, hpl, List.length_drop] at this; omega
      rw [hLl] at ho
      obtain ⟨g, cap', e, -, -⟩ := ho.form (by omega)
      have eA : A = some ⟨g, 0, none⟩ := by injection e
      subst eA
      clear e
      have hjL : j < L.length := by omega
      obtain ⟨G1, f, G2, rfl, h1, hj1, h2⟩ := OwG.split hG (j := j) hjL
      obtain ⟨sj, hsj⟩ : ∃ sj, L[j] = (r[j], sj) := ⟨L[j].2, Prod.ext (row_at hL hpl hlt hjL) rfl⟩
      rw [hsj] at hj1
      obtain ⟨hs1, hf⟩ := hj1
      replace hs1 : SBuf wr B sj r[j].f := hs1
      replace hf : f = X.blkL sj := hf
      subst hf
      have hLs : L = L.set j (r[j], sj) := by rw [← hsj, List.set_getElem_self]
      have o0 : wr.ownsRow B 41 3 (.slice (some ⟨g, 0, none⟩) r.length cap) r.length ((L.set j (r[j], sj)).flatMap cR) := by rw [← hLs]; exact ho
      have hnd0 := hnd
      simp only [X.blkL, Value.ownBlock, Option.toList, List.singleton_append] at hnd0
      change (g :: (G1 ++ (X.blkL sj ++ G2))).Nodup at hnd0
      have hndc := List.nodup_cons.1 hnd0
      have hgf : ∀ b ∈ X.blkL sj, b ≠ g := fun b hb e => hndc.1 (by rw [← e]; exact List.mem_append.2 (.inr (List.mem_append.2 (.inl hb))))
      have h3 := HM.out
      have hx1 := sumF_take Rt.cn r hlt
      have hx2 := sumF_le Rt.cn r (j + 1)
      have HL := Lib.hid (show ∀ v : Rt × Value, v.1 = Rt.mark r[j] m → (L.set j v).map Prod.fst = mkG Rt.mark Rt.cn (r.take (j + 1)) k0 ++ r.drop (j + 1) from fun v hv => by rw [map_set hL, hv, h3]; exact mkG_set _ _ r k0 hlt)
      have i0 : (j : Int) < (r.length : Int) := by omega
      have h5 : Rt.cn r[j] = 2 + r[j].f.length := rfl
      obtain ⟨m1, hm1⟩ : ∃ z, z = m + 1 := ⟨_, rfl⟩
      obtain ⟨m2, hm2⟩ : ∃ z, z = m1 + r[j].f.length := ⟨_, rfl⟩
      obtain ⟨m3, hm3⟩ : ∃ z, z = m2 + 1 := ⟨_, rfl⟩
      have i1 : (m : Int) + 1 = (m1 : Int) := by omega
      have i3 : (m2 : Int) + 1 = (m3 : Int) := by omega
      have HN := Lib.hid (show m3 = k0 + sumF Rt.cn (r.take (j + 1)) by omega)
      have hm3' : m3 ≤ 1099511627776 := by omega
      have hm3'' : 0 < m3 := by omega
      have hM : ∀ W : World, Calls Try.prog 34 #[.int .i64 (m : Int)] W fun e w' => e = .returned (.string (markT m)) ∧ Below W.heap.size W w' := fun W => markText m (by omega) (by omega) W
      obtain ⟨A1, cap1, rfl⟩ := hs1.form
      have hS : ∀ W : World, SBuf W B (.slice A1 r[j].f.length cap1) r[j].f → Calls Try.prog 23 #[.slice A1 r[j].f.length cap1, .int .i64 (m1 : Int)] W fun e w' => e = .returned (.int .i64 (m2 : Int)) ∧ SBuf w' B (.slice A1 r[j].f.length cap1) (marksL m1 r[j].f.length) ∧ W.grownBy w' (Value.slice A1 r[j].f.length cap1).ownBlock := fun W hW => by
        rw [hm2]; exact markS r[j].f _ B m1 W hW (by omega) (by omega)
      have HE := Lib.hid (And.intro hm1 hm2)
      have HF := Lib.hid hgf
      have HLl := Lib.hid hLl
      have c0 : wr.cell? ⟨g, j * 3, none⟩ = some (.string r[j].t) := own_item cR_len hLl.symm hjL o0 0 rfl
      have f0 : ∀ i, wr.frozen? ⟨g, i, none⟩ = false := fun i => o0.frozenAt i
      clear h3 hx1 hx2 h5 hm1 hm2 hm3 HM hgf HO hG ho hLs hpl
      go_wp2_with (first
        | (go_at_call 23; refine (hS _ ((hs1.kept hb2).keepL fun b hb => heap_setCell_other _ _ _ _ (HF.out b hb))).mono ?_; rintro e w4 ⟨rfl, hk4, hg4⟩;
            have o4 := own_keepL (own_put cR_len hjL o1 0 (by omega) (.string (markT m)) ((⟨markT m, r[j].f, r[j].l⟩, .slice A1 r[j].f.length cap1) : Rt × Value) rfl) (fun b hb => (Ch.of_grown hg4).block b ((own_put cR_len hjL o1 0 (by omega) (.string (markT m)) ((⟨markT m, r[j].f, r[j].l⟩, .slice A1 r[j].f.length cap1) : Rt × Value) rfl).lt b (by simpa [X.blkL] using hb)).2 (fun hm => HF.out b hm (by simpa [X.blkL, Value.ownBlock] using hb)));
            have e2 : w4.cell? ⟨g, j * 3 + 2, none⟩ = some (.int .i64 r[j].l) := own_item cR_len HLl.out.symm hjL o4 2 rfl; have ef : ∀ i, w4.frozen? ⟨g, i, none⟩ = false := fun i => o4.frozenAt i)
        | (go_at_call 34; refine (hM _).mono ?_; rintro e w2 ⟨rfl, hb2⟩; have o1 := X.ownsRow_below o0 hb2 (fun k hk => (o0.lt k hk).2); have d0 : w2.cell? ⟨g, j * 3, none⟩ = some (.string r[j].t) := own_item cR_len HLl.out.symm hjL o1 0 rfl; have d1 : w2.cell? ⟨g, j * 3 + 1, none⟩ = some (.slice A1 r[j].f.length cap1) := own_item cR_len HLl.out.symm hjL o1 1 rfl; have df : ∀ i, w2.frozen? ⟨g, i, none⟩ = false := fun i => o1.frozenAt i))
      have o5 := own_put cR_len hjL o4 2 (by omega) (.int .i64 (m2 : Int)) ((Rt.mark r[j] m, .slice A1 r[j].f.length cap1) : Rt × Value) (by
        have h1 := HE.out.1; have h2 := HE.out.2
        show [Value.string (markT m), Value.slice A1 r[j].f.length cap1, Value.int .i64 ((m + 1 + r[j].f.length : Nat) : Int)] = [Value.string (markT m), Value.slice A1 r[j].f.length cap1, Value.int .i64 (m2 : Int)]
        rw [show m + 1 + r[j].f.length = m2 by omega])
      have hyy : iR (w4.setCell ⟨g, j * 3 + 2, none⟩ (.int .i64 (m2 : Int))) B (Rt.mark r[j] m, .slice A1 r[j].f.length cap1) (X.blkL (.slice A1 r[j].f.length cap1)) := by
        refine ⟨?_, rfl⟩
        show SBuf _ B (.slice A1 r[j].f.length cap1) (marksL (m + 1) r[j].f.length)
        rw [← HE.out.1]
        exact hk4.keepL fun b hb => heap_setCell_other _ _ _ _ (HF.out b hb)
      have hcc : X.Ch (g :: X.blkL (.slice A1 r[j].f.length cap1)) wr (w4.setCell ⟨g, j * 3 + 2, none⟩ (.int .i64 (m2 : Int))) :=
        X.Ch.set_ (X.Ch.trans (X.Ch.set_ (X.Ch.of_below hb2) (p := ⟨g, j * 3, none⟩) (by simp) (.string (markT m))) ((Ch.of_grown hg4).more fun x hx => List.mem_cons.2 (.inr hx))) (by simp) _
      have hD := row_done iR_law o5 HLl.out.symm hjL h1 h2 hyy hnd0 hcc
      have hY := Lib.hid (show ORs 41 (w4.setCell ⟨g, j * 3 + 2, none⟩ (.int .i64 (m2 : Int))) B (mkG Rt.mark Rt.cn (r.take (j + 1)) k0 ++ r.drop (j + 1)) (.slice (some ⟨g, 0, none⟩) r.length cap) (g :: (G1 ++ (X.blkL (.slice A1 r[j].f.length cap1) ++ G2))) ∧ X.Ch (g :: (G1 ++ (X.blkL (.slice A1 r[j].f.length cap1) ++ G2))) w (w4.setCell ⟨g, j * 3 + 2, none⟩ (.int .i64 (m2 : Int))) from ⟨⟨_, HL.out _ rfl, hD.1⟩, hch.trans hD.2⟩)
      clear hD hcc hyy o5 o4 o1 o0 hk4 hg4 hS hs1 h1 h2 hch hL HL
      go_roundw
      case rel => exact ⟨j + 1, m3, by go_num, rfl, HN, hm3'', hm3', by omega, hY⟩
      case measure => simp [intOf]; omega
    · obtain rfl : j = r.length := by omega
      obtain ⟨hok', hch⟩ := HO.out
      rw [List.take_length, List.drop_length, List.append_nil] at hok'
      have HN := Lib.hid (show m = k0 + sumF Rt.cn r by rw [HM.out, List.take_length])
      have HK := Lib.hid hok'
      clear HM HO hok'
      go_wp2_with fail
      go_ret
      exact ⟨ret_k HN.out, HK.out, hch⟩
theorem SBuf.chL {w w' : World} {F : List Nat} {B : Nat} {s : Value} {l : List ByteArray} (h : SBuf w B s l) (hc : X.Ch F w w') (hd : ∀ b ∈ X.blkL s, b ∉ F) : SBuf w' B s l := h.keepL fun b hb => hc.block b (h.ltL b hb).2 (hd b hb)
theorem own_ch {w w' : World} {F : List Nat} {B g n cap z : Nat} {e : TypeId} {xs : List Value} (h : w.ownsRow B e z (.slice (some ⟨g, 0, none⟩) n cap) n xs) (hc : X.Ch F w w') (hg : g ∉ F) : w'.ownsRow B e z (.slice (some ⟨g, 0, none⟩) n cap) n xs :=
  own_keepL h fun b hb => by
    have e : b = g := by simpa [X.blkL, Value.ownBlock] using hb
    subst e
    exact hc.block b (h.lt b rfl).2 hg
/-- What of the blocks of a procedure is apart from what. -/
structure Apart (g : Nat) (a b c : List Nat) : Prop where
  ga : g ∉ a
  gb : g ∉ b
  gc : g ∉ c
  ag : ∀ x ∈ a, x ∉ [g]
  bg : ∀ x ∈ b, x ∉ [g]
  cg : ∀ x ∈ c, x ∉ [g]
  ab : ∀ x ∈ a, x ∉ b
  ac : ∀ x ∈ a, x ∉ c
  ba : ∀ x ∈ b, x ∉ a
  bc : ∀ x ∈ b, x ∉ c
  ca : ∀ x ∈ c, x ∉ a
  cb : ∀ x ∈ c, x ∉ b
  nc : c.Nodup
theorem apart_of {g : Nat} {G1 a b c G2 : List Nat} (h : (g :: (G1 ++ ((a ++ (b ++ c)) ++ G2))).Nodup) : Apart g a b c := by
  rw [List.nodup_cons] at h
  obtain ⟨hg, h⟩ := h
  have d1 := (List.nodup_append.1 (List.nodup_append.1 h).2.1).1
  have d2 := List.nodup_append.1 d1
  have d3 := List.nodup_append.1 d2.2.1
  have hm : ∀ x, x ∈ a ∨ x ∈ b ∨ x ∈ c → x ≠ g := fun x hx e => hg (by
    subst e
    refine List.mem_append.2 (.inr (List.mem_append.2 (.inl ?_)))
    simp only [List.mem_append]; exact hx)
  exact ⟨fun h => hm g (.inl h) rfl, fun h => hm g (.inr (.inl h)) rfl, fun h => hm g (.inr (.inr h)) rfl, fun x hx e => hm x (.inl hx) (by simpa using e), fun x hx e => hm x (.inr (.inl hx)) (by simpa using e), fun x hx e => hm x (.inr (.inr hx)) (by simpa using e),
    fun x hx hy => d2.2.2 x hx x (List.mem_append.2 (.inl hy)) rfl, fun x hx hy => d2.2.2 x hx x (List.mem_append.2 (.inr hy)) rfl, fun x hx hy => d2.2.2 x hy x (List.mem_append.2 (.inl hx)) rfl, fun x hx hy => d3.2.2 x hx x hy rfl,
    fun x hx hy => d2.2.2 x hy x (List.mem_append.2 (.inr hx)) rfl, fun x hx hy => d3.2.2 x hy x hx rfl, d3.2.1⟩
set_option maxRecDepth 20000 in
set_option maxHeartbeats 16000000 in
theorem markPdS (r : List Pd) (k0 B : Nat) (s : Value) (F : List Nat) (w : World) (hok : OPs 46 w B r s F) (hnd : F.Nodup) (hk0 : 0 < k0) (hkc : k0 + sumF Pd.cn r ≤ 1099511627776) (hl : r.length ≤ 1099511627776) :
    Calls Try.prog 24 #[s, .int .i64 (k0 : Int)] w fun e w' => e = .returned (.int .i64 ((k0 + sumF Pd.cn r : Nat) : Int)) ∧ OPs 46 w' B (mkG Pd.mark Pd.cn r k0) s F ∧ X.Ch F w w' := by
  obtain ⟨A, cap, rfl⟩ := hok.form
  go_enter Try.func24, Try.ntmps24
  go_wp2_with fail
  go_loopw [1, 5] (fun a i wr => ∃ j m : Nat, i = .int .i64 j ∧ a = .int .i64 m ∧ Hid (m = k0 + sumF Pd.cn (r.take j)) ∧ 0 < m ∧ m ≤ 1099511627776 ∧ j ≤ r.length ∧ Hid (OPs 46 wr B (mkG Pd.mark Pd.cn (r.take j) k0 ++ r.drop j) (.slice A r.length cap) F ∧ X.Ch F w wr))
    (fun _ i _ => r.length - (intOf i).toNat)
  case atStart => exact ⟨0, k0, rfl, rfl, Lib.hid (by simp [sumF]), by omega, by omega, by omega, Lib.hid ⟨by simpa [mkG] using hok, X.Ch.refl _ _⟩⟩
  case round =>
    obtain ⟨j, m, rfl, rfl, HM, hm0, hm, hj, HO⟩ := hrel
    by_cases hlt : j < r.length
    · obtain ⟨⟨L, hL, G, ho, hG, rfl⟩, hch⟩ := HO.out
      have hpl : (mkG Pd.mark Pd.cn (r.take j) k0).length = j := by rw [mkG_length, List.length_take]; omega
      have hLl : L.length = r.length := by have := congrArg List.length hL; rw [List.length_map, List.length_append, hpl, List.length_drop] at this; omega
      rw [hLl] at ho
      obtain ⟨g, cap', e, -, -⟩ := ho.form (by omega)
      have eA : A = some ⟨g, 0, none⟩ := by injection e
      subst eA
      clear e
      have hjL : j < L.length := by omega
      obtain ⟨G1, f, G2, rfl, h1, hj1, h2⟩ := OwG.split hG (j := j) hjL
      obtain ⟨z1, z2, z3, hsj⟩ : ∃ z1 z2 z3, L[j] = (r[j], z1, z2, z3) := ⟨L[j].2.1, L[j].2.2.1, L[j].2.2.2, Prod.ext (row_at hL hpl hlt hjL) rfl⟩
      rw [hsj] at hj1
      obtain ⟨F3, hs1, hs2, hs3, hf⟩ := hj1
      replace hs1 : SBuf wr B z1 r[j].p := hs1
      replace hs2 : SBuf wr B z2 r[j].q := hs2
      replace hs3 : X.Ok wr B r[j].x.r z3 F3 := hs3
      replace hf : f = X.blkL z1 ++ (X.blkL z2 ++ F3) := hf
      subst hf
      have hLs : L = L.set j (r[j], z1, z2, z3) := by rw [← hsj, List.set_getElem_self]
      have o0 : wr.ownsRow B 46 9 (.slice (some ⟨g, 0, none⟩) r.length cap) r.length ((L.set j (r[j], z1, z2, z3)).flatMap cP) := by rw [← hLs]; exact ho
      have hnd0 := hnd
      simp only [X.blkL, Value.ownBlock, Option.toList, List.singleton_append] at hnd0
      change (g :: (G1 ++ ((X.blkL z1 ++ (X.blkL z2 ++ F3)) ++ G2))).Nodup at hnd0
      have hndc := List.nodup_cons.1 hnd0
      have hgf : ∀ b ∈ (X.blkL z1 ++ (X.blkL z2 ++ F3)), b ≠ g := fun b hb e => hndc.1 (by rw [← e]; exact List.mem_append.2 (.inr (List.mem_append.2 (.inl hb))))
      have h3 := HM.out
      have hx1 := sumF_take Pd.cn r hlt
      have hx2 := sumF_le Pd.cn r (j + 1)
      have HL := Lib.hid (show ∀ v : Pd × Value × Value × Value, v.1 = Pd.mark r[j] m → (L.set j v).map Prod.fst = mkG Pd.mark Pd.cn (r.take (j + 1)) k0 ++ r.drop (j + 1) from fun v hv => by rw [map_set hL, hv, h3]; exact mkG_set _ _ r k0 hlt)
      have i0 : (j : Int) < (r.length : Int) := by omega
      have HA := Lib.hid (apart_of hnd0)
      have h5 : Pd.cn r[j] = 2 + r[j].p.length + r[j].q.length + 4 * X.cnt r[j].x := rfl
      have h6 := X.cnt_r r[j].x
      obtain ⟨m1, hm1⟩ : ∃ z, z = m + 1 := ⟨_, rfl⟩
      obtain ⟨m2, hm2⟩ : ∃ z, z = m1 + r[j].p.length := ⟨_, rfl⟩
      obtain ⟨m3, hm3⟩ : ∃ z, z = m2 + r[j].q.length := ⟨_, rfl⟩
      obtain ⟨m4, hm4⟩ : ∃ z, z = m3 + 1 := ⟨_, rfl⟩
      obtain ⟨m5, hm5⟩ : ∃ z, z = m4 + 1 := ⟨_, rfl⟩
      obtain ⟨m6, hm6⟩ : ∃ z, z = m5 + 1 := ⟨_, rfl⟩
      obtain ⟨m7, hm7⟩ : ∃ z, z = m6 + 1 := ⟨_, rfl⟩
      obtain ⟨m8, hm8⟩ : ∃ z, z = m7 + 4 * X.cntL r[j].x.r := ⟨_, rfl⟩
      obtain ⟨m9, hm9⟩ : ∃ z, z = m8 + 1 := ⟨_, rfl⟩
      have i1 : (m : Int) + 1 = (m1 : Int) := by omega
      have i4 : (m3 : Int) + 1 = (m4 : Int) := by omega
      have i5 : (m4 : Int) + 1 = (m5 : Int) := by omega
      have i6 : (m5 : Int) + 1 = (m6 : Int) := by omega
      have i7 : (m6 : Int) + 1 = (m7 : Int) := by omega
      have i9 : (m8 : Int) + 1 = (m9 : Int) := by omega
      have HN := Lib.hid (show m9 = k0 + sumF Pd.cn (r.take (j + 1)) by omega)
      have hm9' : m9 ≤ 1099511627776 := by omega
      have hm9'' : 0 < m9 := by omega
      have l4 : m4 ≤ 1099511627776 ∧ m5 ≤ 1099511627776 ∧ m6 ≤ 1099511627776 ∧ m7 ≤ 1099511627776 := by omega
      obtain ⟨l4, l5, l6, l7⟩ := l4
      have hM : ∀ W : World, Calls Try.prog 34 #[.int .i64 (m : Int)] W fun e w' => e = .returned (.string (markT m)) ∧ Below W.heap.size W w' := fun W => markText m (by omega) (by omega) W
      have hM4 : ∀ W : World, Calls Try.prog 34 #[.int .i64 (m4 : Int)] W fun e w' => e = .returned (.string (markT m4)) ∧ Below W.heap.size W w' := fun W => markText m4 (by omega) (by omega) W
      obtain ⟨A1, cap1, rfl⟩ := hs1.form
      obtain ⟨A2, cap2, rfl⟩ := hs2.form
      obtain ⟨A3, cap3, rfl⟩ := hs3.form
      have hS1 : ∀ W : World, SBuf W B (.slice A1 r[j].p.length cap1) r[j].p → Calls Try.prog 23 #[.slice A1 r[j].p.length cap1, .int .i64 (m1 : Int)] W fun e w' => e = .returned (.int .i64 (m2 : Int)) ∧ SBuf w' B (.slice A1 r[j].p.length cap1) (marksL m1 r[j].p.length) ∧ X.Ch (X.blkL (.slice A1 r[j].p.length cap1)) W w' := fun W hW => by
        rw [hm2]; exact (markS r[j].p _ B m1 W hW (by omega) (by omega)).mono fun e w' h => ⟨h.1, h.2.1, Ch.of_grown h.2.2⟩
      have hS2 : ∀ W : World, SBuf W B (.slice A2 r[j].q.length cap2) r[j].q → Calls Try.prog 23 #[.slice A2 r[j].q.length cap2, .int .i64 (m2 : Int)] W fun e w' => e = .returned (.int .i64 (m3 : Int)) ∧ SBuf w' B (.slice A2 r[j].q.length cap2) (marksL m2 r[j].q.length) ∧ X.Ch (X.blkL (.slice A2 r[j].q.length cap2)) W w' := fun W hW => by
        rw [hm3]; exact (markS r[j].q _ B m2 W hW (by omega) (by omega)).mono fun e w' h => ⟨h.1, h.2.1, Ch.of_grown h.2.2⟩
      have hS3 : ∀ W : World, X.Ok W B r[j].x.r (.slice A3 r[j].x.r.length cap3) F3 → Calls Try.prog 35 #[.slice A3 r[j].x.r.length cap3, .int .i64 (m7 : Int)] W fun e w' => e = .returned (.int .i64 (m8 : Int)) ∧ X.Ok w' B (X.markL r[j].x.r m7) (.slice A3 r[j].x.r.length cap3) F3 ∧ X.Ch F3 W w' := fun W hW => by
        rw [hm8]; exact X.markW r[j].x m7 B _ F3 W hW HA.out.nc (by omega) (by omega)
      have HE := Lib.hid (show m + 1 = m1 ∧ m + 1 + r[j].p.length = m2 ∧ m + 1 + r[j].p.length + r[j].q.length = m3 ∧ m3 + 1 = m4 ∧ m3 + 2 = m5 ∧ m3 + 3 = m6 ∧ m3 + 4 = m7 ∧ m3 + 4 * X.cnt r[j].x = m8 by omega)
      have HLl := Lib.hid hLl
      have HF := Lib.hid hgf
      have c0 : wr.cell? ⟨g, j * 9, none⟩ = some (.string r[j].t) := own_item cP_len hLl.symm hjL o0 0 rfl
      have f0 : ∀ i, wr.frozen? ⟨g, i, none⟩ = false := fun i => o0.frozenAt i
      clear h3 hx1 hx2 h5 h6 hm1 hm2 hm3 hm4 hm5 hm6 hm7 hm8 hm9 HM hgf HO hG ho hLs hpl
      go_wp2_with (first
        | (go_at_call 35;
            have o6c := own_put cP_len hjL (own_put cP_len hjL (own_put cP_len hjL o6 4 (by omega) (.string (markT m4)) ((⟨markT m, r[j].p, r[j].q, .mk (m3 : Int) (markT m4) r[j].x.n r[j].x.l r[j].x.r, r[j].l⟩, Value.slice A1 r[j].p.length cap1, Value.slice A2 r[j].q.length cap2, Value.slice A3 r[j].x.r.length cap3) : Pd × Value × Value × Value) rfl) 5 (by omega) (.int .i64 (m5 : Int)) ((⟨markT m, r[j].p, r[j].q, .mk (m3 : Int) (markT m4) (m5 : Int) r[j].x.l r[j].x.r, r[j].l⟩, Value.slice A1 r[j].p.length cap1, Value.slice A2 r[j].q.length cap2, Value.slice A3 r[j].x.r.length cap3) : Pd × Value × Value × Value) rfl) 6 (by omega) (.int .i64 (m6 : Int)) ((⟨markT m, r[j].p, r[j].q, .mk (m3 : Int) (markT m4) (m5 : Int) (m6 : Int) r[j].x.r, r[j].l⟩, Value.slice A1 r[j].p.length cap1, Value.slice A2 r[j].q.length cap2, Value.slice A3 r[j].x.r.length cap3) : Pd × Value × Value × Value) rfl;
            have C6 : X.Ch [g] w5 ((((w6.setCell ⟨g, j * 9 + 4, none⟩ (.string (markT m4))).setCell ⟨g, j * 9 + 5, none⟩ (.int .i64 (m5 : Int))).setCell ⟨g, j * 9 + 6, none⟩ (.int .i64 (m6 : Int)))) := X.Ch.set_ (X.Ch.set_ (X.Ch.set_ (X.Ch.trans (X.Ch.set_ (X.Ch.refl _ w5) (p := ⟨g, j * 9 + 3, none⟩) (by simp) (.int .i64 (m3 : Int))) (X.Ch.of_below hb6)) (by simp) _) (by simp) _) (by simp) _;
            refine (hS3 _ ((((hs3.ch C2 HA.out.cg).ch C4 HA.out.ca).ch C5 HA.out.cb).ch C6 HA.out.cg)).mono ?_; rintro e w7 ⟨rfl, hk3, C7⟩;
            have o7 := own_ch o6c C7 HA.out.gc; have e8 : w7.cell? ⟨g, j * 9 + 8, none⟩ = some (.int .i64 r[j].l) := own_item cP_len HLl.out.symm hjL o7 8 rfl; have ef7 : ∀ i, w7.frozen? ⟨g, i, none⟩ = false := fun i => o7.frozenAt i)
        | (have hg5 := g5; go_at_call 34; refine (hM4 _).mono ?_; rintro e w6 ⟨rfl, hb6⟩;
            have o5' := own_put cP_len hjL o5 3 (by omega) (.int .i64 (m3 : Int)) ((⟨markT m, r[j].p, r[j].q, .mk (m3 : Int) r[j].x.t r[j].x.n r[j].x.l r[j].x.r, r[j].l⟩, Value.slice A1 r[j].p.length cap1, Value.slice A2 r[j].q.length cap2, Value.slice A3 r[j].x.r.length cap3) : Pd × Value × Value × Value) rfl;
            have o6 := X.ownsRow_below o5' hb6 (fun k hk => (o5'.lt k hk).2); have q4 : w6.cell? ⟨g, j * 9 + 4, none⟩ = some (.string r[j].x.t) := own_item cP_len HLl.out.symm hjL o6 4 rfl; have q5 : w6.cell? ⟨g, j * 9 + 5, none⟩ = some (.int .i64 r[j].x.n) := own_item cP_len HLl.out.symm hjL o6 5 rfl; have q6 : w6.cell? ⟨g, j * 9 + 6, none⟩ = some (.int .i64 r[j].x.l) := own_item cP_len HLl.out.symm hjL o6 6 rfl; have q7 : w6.cell? ⟨g, j * 9 + 7, none⟩ = some (.slice A3 r[j].x.r.length cap3) := own_item cP_len HLl.out.symm hjL o6 7 rfl; have ef6 : ∀ i, w6.frozen? ⟨g, i, none⟩ = false := fun i => o6.frozenAt i)
        | (have hg4 := g4; go_at_call 23; refine (hS2 _ ((hs2.chL C2 HA.out.bg).chL C4 HA.out.ba)).mono ?_; rintro e w5 ⟨rfl, hk2, C5⟩; have g5 := C5;
            have o5 := own_ch o4 C5 HA.out.gb; have e3 : w5.cell? ⟨g, j * 9 + 3, none⟩ = some (.int .i64 r[j].x.k) := own_item cP_len HLl.out.symm hjL o5 3 rfl; have ef5 : ∀ i, w5.frozen? ⟨g, i, none⟩ = false := fun i => o5.frozenAt i)
        | (go_at_call 23;
            have C2 : X.Ch [g] wr (w2.setCell ⟨g, j * 9, none⟩ (.string (markT m))) := X.Ch.set_ (X.Ch.of_below hb2) (by simp) _;
            refine (hS1 _ (hs1.chL C2 HA.out.ag)).mono ?_; rintro e w4 ⟨rfl, hk1, C4⟩; have g4 := C4;
            have o4 := own_ch (own_put cP_len hjL o1 0 (by omega) (.string (markT m)) ((⟨markT m, r[j].p, r[j].q, r[j].x, r[j].l⟩, Value.slice A1 r[j].p.length cap1, Value.slice A2 r[j].q.length cap2, Value.slice A3 r[j].x.r.length cap3) : Pd × Value × Value × Value) rfl) C4 HA.out.ga; have e2 : w4.cell? ⟨g, j * 9 + 2, none⟩ = some (.slice A2 r[j].q.length cap2) := own_item cP_len HLl.out.symm hjL o4 2 rfl)
        | (go_at_call 34; refine (hM _).mono ?_; rintro e w2 ⟨rfl, hb2⟩; have o1 := X.ownsRow_below o0 hb2 (fun k hk => (o0.lt k hk).2); have d0 : w2.cell? ⟨g, j * 9, none⟩ = some (.string r[j].t) := own_item cP_len HLl.out.symm hjL o1 0 rfl; have d1 : w2.cell? ⟨g, j * 9 + 1, none⟩ = some (.slice A1 r[j].p.length cap1) := own_item cP_len HLl.out.symm hjL o1 1 rfl; have df : ∀ i, w2.frozen? ⟨g, i, none⟩ = false := fun i => o1.frozenAt i))
      have o8 := own_put cP_len hjL o7 8 (by omega) (.int .i64 (m8 : Int)) ((Pd.mark r[j] m, Value.slice A1 r[j].p.length cap1, Value.slice A2 r[j].q.length cap2, Value.slice A3 r[j].x.r.length cap3) : Pd × Value × Value × Value) (by
        obtain ⟨x1, x2, x3, x4, x5, x6, x7, x8⟩ := HE.out
        show [Value.string (markT m), Value.slice A1 r[j].p.length cap1, Value.slice A2 r[j].q.length cap2, Value.int .i64 (X.mark r[j].x (m + 1 + r[j].p.length + r[j].q.length)).k, Value.string (X.mark r[j].x (m + 1 + r[j].p.length + r[j].q.length)).t, Value.int .i64 (X.mark r[j].x (m + 1 + r[j].p.length + r[j].q.length)).n, Value.int .i64 (X.mark r[j].x (m + 1 + r[j].p.length + r[j].q.length)).l, Value.slice A3 r[j].x.r.length cap3, Value.int .i64 ((m + 1 + r[j].p.length + r[j].q.length + 4 * X.cnt r[j].x : Nat) : Int)] =
          [Value.string (markT m), Value.slice A1 r[j].p.length cap1, Value.slice A2 r[j].q.length cap2, Value.int .i64 (m3 : Int), Value.string (markT m4), Value.int .i64 (m5 : Int), Value.int .i64 (m6 : Int), Value.slice A3 r[j].x.r.length cap3, Value.int .i64 (m8 : Int)]
        rw [x3, X.mark_k, X.mark_t, X.mark_n, X.mark_l, x4, x5, x6, x8])
      have C8 : X.Ch [g] w7 (w7.setCell ⟨g, j * 9 + 8, none⟩ (.int .i64 (m8 : Int))) := X.Ch.set_ (X.Ch.refl _ w7) (by simp) _
      have hyy : iP (w7.setCell ⟨g, j * 9 + 8, none⟩ (.int .i64 (m8 : Int))) B ((Pd.mark r[j] m, Value.slice A1 r[j].p.length cap1, Value.slice A2 r[j].q.length cap2, Value.slice A3 r[j].x.r.length cap3) : Pd × Value × Value × Value) (X.blkL (.slice A1 r[j].p.length cap1) ++ (X.blkL (.slice A2 r[j].q.length cap2) ++ F3)) := by
        obtain ⟨x1, x2, x3, x4, x5, x6, x7, x8⟩ := HE.out
        refine ⟨F3, ?_, ?_, ?_, rfl⟩
        · show SBuf _ B (.slice A1 r[j].p.length cap1) (marksL (m + 1) r[j].p.length)
          rw [x1]
          exact (((hk1.chL C5 HA.out.ab).chL C6 HA.out.ag).chL C7 HA.out.ac).chL C8 HA.out.ag
        · show SBuf _ B (.slice A2 r[j].q.length cap2) (marksL (m + 1 + r[j].p.length) r[j].q.length)
          rw [x2]
          exact ((hk2.chL C6 HA.out.bg).chL C7 HA.out.bc).chL C8 HA.out.bg
        · show X.Ok _ B (X.mark r[j].x (m + 1 + r[j].p.length + r[j].q.length)).r (.slice A3 r[j].x.r.length cap3) F3
          rw [x3, X.mark_r, x7]
          exact hk3.ch C8 HA.out.cg
      have hcc : X.Ch (g :: (X.blkL (.slice A1 r[j].p.length cap1) ++ (X.blkL (.slice A2 r[j].q.length cap2) ++ F3))) wr (w7.setCell ⟨g, j * 9 + 8, none⟩ (.int .i64 (m8 : Int))) :=
        ((((((C2.more (by simp)).trans (C4.more fun x hx => by simp [hx])).trans (C5.more fun x hx => by simp [hx])).trans (C6.more (by simp))).trans (C7.more fun x hx => by simp [hx])).trans (C8.more (by simp)))
      have hD := row_done iP_law o8 HLl.out.symm hjL h1 h2 hyy hnd0 hcc
      have hY := Lib.hid (show OPs 46 (w7.setCell ⟨g, j * 9 + 8, none⟩ (.int .i64 (m8 : Int))) B (mkG Pd.mark Pd.cn (r.take (j + 1)) k0 ++ r.drop (j + 1)) (.slice (some ⟨g, 0, none⟩) r.length cap) (g :: (G1 ++ ((X.blkL (.slice A1 r[j].p.length cap1) ++ (X.blkL (.slice A2 r[j].q.length cap2) ++ F3)) ++ G2))) ∧ X.Ch (g :: (G1 ++ ((X.blkL (.slice A1 r[j].p.length cap1) ++ (X.blkL (.slice A2 r[j].q.length cap2) ++ F3)) ++ G2))) w (w7.setCell ⟨g, j * 9 + 8, none⟩ (.int .i64 (m8 : Int))) from ⟨⟨_, HL.out _ rfl, hD.1⟩, hch.trans hD.2⟩)
      clear hD hcc hyy o8 o7 o6c o6 o5' o5 o4 o1 o0 hk1 hk2 hk3 C2 C4 C5 C6 C7 C8 g4 g5 hS1 hS2 hS3 hs1 hs2 hs3 h1 h2 hch hL HL
      go_roundw
      case rel => exact ⟨j + 1, m9, by go_num, rfl, HN, hm9'', hm9', by omega, hY⟩
      case measure => simp [intOf]; omega
    · obtain rfl : j = r.length := by omega
      obtain ⟨hok', hch⟩ := HO.out
      rw [List.take_length, List.drop_length, List.append_nil] at hok'
      have HN := Lib.hid (show m = k0 + sumF Pd.cn r by rw [HM.out, List.take_length])
      have HK := Lib.hid hok'
      clear HM HO hok'
      go_wp2_with fail
      go_ret
      exact ⟨ret_k HN.out, HK.out, hch⟩
theorem Blk.ch {w w' : World} {F : List Nat} {g : Nat} {t : TypeId} {cs : Array Value} (h : Blk w g t cs) (hc : X.Ch F w w') (hg : g ∉ F) : Blk w' g t cs := (hc.block g h.lt hg).trans h
theorem ORs.ch {eR : TypeId} {w w' : World} {F G : List Nat} {B : Nat} {r : List Rt} {s : Value} (h : ORs eR w B r s F) (hc : X.Ch G w w') (hd : ∀ b ∈ F, b ∉ G) : ORs eR w' B r s F := h.keep fun b hb => hc.block b (h.lt b hb).2 (hd b hb)
theorem OPs.ch {eR : TypeId} {w w' : World} {F G : List Nat} {B : Nat} {r : List Pd} {s : Value} (h : OPs eR w B r s F) (hc : X.Ch G w w') (hd : ∀ b ∈ F, b ∉ G) : OPs eR w' B r s F := h.keep fun b hb => hc.block b (h.lt b hb).2 (hd b hb)
theorem OUn.ch {eR eP : TypeId} {w w' : World} {F G : List Nat} {B : Nat} {u : Un} {s1 s2 s3 : Value} (h : OUn eR eP w B u s1 s2 s3 F) (hc : X.Ch G w w') (hd : ∀ b ∈ F, b ∉ G) : OUn eR eP w' B u s1 s2 s3 F := h.keep fun b hb => hc.block b (h.lt b hb).2 (hd b hb)
set_option maxHeartbeats 4000000 in
theorem markUn (u : Un) (k0 B : Nat) (s1 s2 s3 : Value) (F : List Nat) (w : World) (hok : OUn 41 46 w B u s1 s2 s3 F) (hnd : F.Nodup) (hk0 : 0 < k0) (hkc : k0 + u.cn ≤ 1099511627776) (hl : u.r.length ≤ 1099511627776) (hl2 : u.p.length ≤ 1099511627776) :
    Calls Try.prog 9 #[.agg #[s1, s2, s3], .int .i64 (k0 : Int)] w fun e w' => e = .returned (.int .i64 ((k0 + u.cn : Nat) : Int)) ∧ OUn 41 46 w' B (u.mark k0) s1 s2 s3 F ∧ X.Ch F w w' := by
  have hlt := hok.lt
  obtain ⟨F1, F3, hs1, hs2, hs3, rfl⟩ := hok
  obtain ⟨r, g, p⟩ := u
  replace hkc : k0 + (sumF Rt.cn r + g.length + sumF Pd.cn p) ≤ 1099511627776 := hkc
  replace hs1 : ORs 41 w B r s1 F1 := hs1
  replace hs2 : SBuf w B s2 g := hs2
  replace hs3 : OPs 46 w B p s3 F3 := hs3
  replace hl : r.length ≤ 1099511627776 := hl
  replace hl2 : p.length ≤ 1099511627776 := hl2
  have d1 := List.nodup_append.1 hnd
  have d2 := List.nodup_append.1 d1.2.1
  have HE := Lib.hid (show k0 + Un.cn ⟨r, g, p⟩ = k0 + sumF Rt.cn r + g.length + sumF Pd.cn p by show k0 + (sumF Rt.cn r + g.length + sumF Pd.cn p) = _; omega)
  have HU := Lib.hid (show Un.mark ⟨r, g, p⟩ k0 = ⟨mkG Rt.mark Rt.cn r k0, marksL (k0 + sumF Rt.cn r) g.length, mkG Pd.mark Pd.cn p (k0 + sumF Rt.cn r + g.length)⟩ from rfl)
  obtain ⟨n1, h1⟩ : ∃ z, z = k0 + sumF Rt.cn r := ⟨_, rfl⟩
  obtain ⟨n2, h2⟩ : ∃ z, z = n1 + g.length := ⟨_, rfl⟩
  obtain ⟨n3, h3⟩ : ∃ z, z = n2 + sumF Pd.cn p := ⟨_, rfl⟩
  rw [← h1] at HE HU
  rw [← h2] at HE HU
  rw [← h3] at HE
  have hC1 : ∀ W : World, ORs 41 W B r s1 F1 → Calls Try.prog 22 #[s1, .int .i64 (k0 : Int)] W fun e w' => e = .returned (.int .i64 (n1 : Int)) ∧ ORs 41 w' B (mkG Rt.mark Rt.cn r k0) s1 F1 ∧ X.Ch F1 W w' := fun W hW => by
    rw [h1]; exact markRtS r k0 B s1 F1 W hW d1.1 hk0 (by omega) hl
  have hC2 : ∀ W : World, SBuf W B s2 g → Calls Try.prog 23 #[s2, .int .i64 (n1 : Int)] W fun e w' => e = .returned (.int .i64 (n2 : Int)) ∧ SBuf w' B s2 (marksL n1 g.length) ∧ X.Ch (X.blkL s2) W w' := fun W hW => by
    rw [h2]; exact (markS g s2 B n1 W hW (by omega) (by omega)).mono fun e w' h => ⟨h.1, h.2.1, Ch.of_grown h.2.2⟩
  have hC3 : ∀ W : World, OPs 46 W B p s3 F3 → Calls Try.prog 24 #[s3, .int .i64 (n2 : Int)] W fun e w' => e = .returned (.int .i64 (n3 : Int)) ∧ OPs 46 w' B (mkG Pd.mark Pd.cn p n2) s3 F3 ∧ X.Ch F3 W w' := fun W hW => by
    rw [h3]; exact markPdS p n2 B s3 F3 W hW d2.2.1 (by omega) (by omega) hl2
  have Q12 := Lib.hid (show ∀ b ∈ X.blkL s2, b ∉ F1 from fun b hb hm => d1.2.2 b hm b (List.mem_append.2 (.inl hb)) rfl)
  have Q13 := Lib.hid (show ∀ b ∈ F3, b ∉ F1 from fun b hb hm => d1.2.2 b hm b (List.mem_append.2 (.inr hb)) rfl)
  have Q23 := Lib.hid (show ∀ b ∈ F3, b ∉ X.blkL s2 from fun b hb hm => d2.2.2 b hm b hb rfl)
  have Q21 := Lib.hid (show ∀ b ∈ F1, b ∉ X.blkL s2 from fun b hb hm => d1.2.2 b hb b (List.mem_append.2 (.inl hm)) rfl)
  have Q31 := Lib.hid (show ∀ b ∈ F1, b ∉ F3 from fun b hb hm => d1.2.2 b hb b (List.mem_append.2 (.inr hm)) rfl)
  have Q32 := Lib.hid (show ∀ b ∈ X.blkL s2, b ∉ F3 from fun b hb hm => d2.2.2 b hb b hm rfl)
  have HB := Lib.hid (show ∀ b ∈ F1 ++ (X.blkL s2 ++ F3), b ≠ w.heap.size from fun b hb e => by have := (hlt b hb).2; omega)
  obtain ⟨A1, e1, hf1⟩ := hs1.form
  obtain ⟨A2, e2, hf2⟩ := hs2.form
  obtain ⟨A3, e3, hf3⟩ := hs3.form
  subst hf1 hf2 hf3
  clear h1 h2 h3 hkc hl hl2 hnd d1 d2 hlt
  go_enter Try.func9, Try.ntmps9
  go_wp2_with (first
    | (go_at_call 24; refine (hC3 _ (((hs3.kept (by repeat (first | exact Below.refl _ _ | refine Below.drew ?_ | refine Below.setCell ?_ (by (try simp); try omega) _ | refine Below.alloc ?_ (by (try simp); try omega) _))).ch C1 Q13.out).ch C2 Q23.out)).mono ?_; rintro e w3 ⟨rfl, hk3, C3⟩)
    | (go_at_call 23; refine (hC2 _ ((SBuf.kept hs2 (by repeat (first | exact Below.refl _ _ | refine Below.drew ?_ | refine Below.setCell ?_ (by (try simp); try omega) _ | refine Below.alloc ?_ (by (try simp); try omega) _))).chL C1 Q12.out)).mono ?_; rintro e w2 ⟨rfl, hk2, C2⟩; have hB := hB.ch C2 (fun hm => HB.out _ (List.mem_append.2 (.inr (List.mem_append.2 (.inl hm)))) rfl); obtain ⟨a0, a1, a2⟩ := Blk.c3 hB)
    | (go_at_call 22; refine (hC1 _ (hs1.kept (by repeat (first | exact Below.refl _ _ | refine Below.drew ?_ | refine Below.setCell ?_ (by (try simp); try omega) _ | refine Below.alloc ?_ (by (try simp); try omega) _)))).mono ?_; rintro e w1 ⟨rfl, hk1, C1⟩; have hB : Blk w1 w.heap.size 31 #[.slice A1 r.length e1, .slice A2 g.length e2, .slice A3 p.length e3] := (Blk.new _ _ _).ch C1 (fun hm => HB.out _ (List.mem_append.2 (.inl hm)) rfl); obtain ⟨a0, a1, a2⟩ := Blk.c3 hB))
  go_ret
  refine ⟨ret_k HE.out.symm, ?_, ?_⟩
  · rw [HU.out]
    exact ⟨F1, F3, (hk1.ch C2 Q21.out).ch C3 Q31.out, hk2.chL C3 Q32.out, hk3, rfl⟩
  · exact (((X.Ch.of_below (by repeat (first | exact Below.refl _ _ | refine Below.drew ?_ | refine Below.setCell ?_ (by (try simp); try omega) _ | refine Below.alloc ?_ (by (try simp); try omega) _))).trans (C1.more fun x hx => List.mem_append.2 (.inl hx))).trans (C2.more fun x hx => List.mem_append.2 (.inr (List.mem_append.2 (.inl hx))))).trans (C3.more fun x hx => List.mem_append.2 (.inr (List.mem_append.2 (.inr hx))))
end Go.Proofs.Ytljblaglfooclaa
