/- Proved here: what the law's markExpr leaves of a tree of the call's own, and that heldExpr finds it so. Condition: the counters fit. -/
import Derived.Test.YtljblaglfooclaaTo
import Derived.Test.YtljblaglfooclaaMk
import Derived.Test.YtljblaglfooclaaEq
import Derived.Deep.AppendLies
namespace Go.Proofs.Ytljblaglfooclaa
open Go.RowKit
namespace X

mutual
/-- The tree with every part marked, from the number k on. -/
def mark : X → Nat → X | .mk _ _ _ _ r, k => .mk (k : Int) (markT (k + 1)) ((k + 2 : Nat) : Int) ((k + 3 : Nat) : Int) (markL r (k + 4))
def markL : List X → Nat → List X | [], _ => [] | x :: r, k => mark x k :: markL r (k + 4 * cnt x)
end
theorem markL_length : ∀ (r : List X) (k : Nat), (markL r k).length = r.length
  | [], _ => rfl
  | x :: r, k => by simp [markL, markL_length r]
theorem markL_append : ∀ (l m : List X) (k : Nat), markL (l ++ m) k = markL l k ++ markL m (k + 4 * cntL l)
  | [], m, k => by simp [markL, cntL]
  | x :: l, m, k => by simp only [List.cons_append, markL, cntL, markL_append l m]; rw [show k + 4 * cnt x + 4 * cntL l = k + 4 * (cnt x + cntL l) by omega]
theorem markL_get (r : List X) (k : Nat) {j : Nat} (h : j < r.length) (h' : j < (markL r k).length) : (markL r k)[j] = mark r[j] (k + 4 * cntL (r.take j)) := by
  have e : r = r.take j ++ (r[j] :: r.drop (j + 1)) := by rw [List.getElem_cons_drop, List.take_append_drop]
  have e2 : markL r k = markL (r.take j) k ++ (mark r[j] (k + 4 * cntL (r.take j)) :: markL (r.drop (j + 1)) (k + 4 * cntL (r.take j) + 4 * cnt r[j])) := by
    conv => lhs; rw [e]
    rw [markL_append]; rfl
  have hl : (markL (r.take j) k).length = j := by rw [markL_length]; simp; omega
  rw [List.getElem_of_eq e2, List.getElem_append_right (by omega)]
  simp [hl]
theorem mark_r (x : X) (k : Nat) : (mark x k).r = markL x.r (k + 4) := by cases x; rfl
theorem mark_k (x : X) (k : Nat) : (mark x k).k = (k : Int) := by cases x; rfl
theorem mark_t (x : X) (k : Nat) : (mark x k).t = markT (k + 1) := by cases x; rfl
theorem mark_n (x : X) (k : Nat) : (mark x k).n = ((k + 2 : Nat) : Int) := by cases x; rfl
theorem mark_l (x : X) (k : Nat) : (mark x k).l = ((k + 3 : Nat) : Int) := by cases x; rfl
mutual
theorem mark_cnt : ∀ (x : X) (k : Nat), cnt (mark x k) = cnt x
  | .mk _ _ _ _ r, k => by simp [mark, cnt, markL_cnt r]
theorem markL_cnt : ∀ (r : List X) (k : Nat), cntL (markL r k) = cntL r
  | [], _ => rfl
  | x :: r, k => by simp [markL, cntL, mark_cnt x, markL_cnt r]
end
theorem cnt_r (x : X) : cnt x = 1 + cntL x.r := by cases x; rfl
theorem teq_self (t : ByteArray) : (t.toList == t.toList) = true := by simp
set_option maxRecDepth 20000 in
set_option maxHeartbeats 4000000 in
theorem heldL (x : X) : ∀ (k0 : Nat) (s : Value) (P : Nat → Prop) (w : World), Kd w P (markL x.r k0) s → (∀ b, P b → b < w.heap.size) → 0 < k0 → k0 + 4 * cntL x.r ≤ 1099511627776 →
    Calls Try.prog 36 #[s, .int .i64 (k0 : Int)] w fun e w' => e = .returned (.int .i64 ((k0 + 4 * cntL x.r : Nat) : Int)) ∧ Below w.heap.size w w' := by
  induction x using X.ind with
  | h k t n l r ih =>
    intro k0 s P w hK hP hk0 hkc
    obtain ⟨A, cap, hs⟩ := hK.form
    rw [markL_length] at hs
    subst hs
    replace hkc : k0 + 4 * cntL r ≤ 1099511627776 := hkc
    replace hK : Kd w P (markL r k0) (.slice A r.length cap) := hK
    show Calls Try.prog 36 #[.slice A r.length cap, .int .i64 (k0 : Int)] w fun e w' => e = .returned (.int .i64 ((k0 + 4 * cntL r : Nat) : Int)) ∧ Below w.heap.size w w'
    have hll := len_le_cntL r
    go_enter Try.func36, Try.ntmps36
    go_wp2_with fail
    go_loopw [1, 5] (fun a i wr => ∃ j m : Nat, i = .int .i64 j ∧ a = .int .i64 m ∧ Hid (m = k0 + 4 * cntL (r.take j)) ∧ 0 < m ∧ m ≤ 1099511627776 ∧ j ≤ r.length ∧ Below w.heap.size w wr)
      (fun _ i _ => r.length - (intOf i).toNat)
    case atStart => exact ⟨0, k0, rfl, rfl, Lib.hid (by simp [cntL]), by omega, by omega, by omega, Below.refl _ _⟩
    case round =>
      obtain ⟨j, m, rfl, rfl, HM, hm0, hm, hj, hb⟩ := hrel
      have hsz := hb.size
      by_cases hlt : j < r.length
      · obtain ⟨b, o, s', rfl, hPb, hkid, c0, c1, c2, c3, c4⟩ := Kd.at_ (hK.below hb hP) (i := j) (by rw [markL_length]; exact hlt)
        rw [markL_get r k0 hlt, ← HM.out] at c0 c1 c2 c3 hkid
        rw [mark_k] at c0
        rw [mark_t] at c1
        rw [mark_n] at c2
        rw [mark_l] at c3
        rw [mark_r] at hkid
        obtain ⟨A1, cap1, hs'⟩ := hkid.form
        rw [markL_length] at hs'
        subst hs'
        have h1 := cntL_take r hlt
        have h2 := cntL_le r (j + 1)
        have h3 := HM.out
        have h5 := cnt_r r[j]
        obtain ⟨m1, hm1⟩ : ∃ z, z = m + 1 := ⟨_, rfl⟩
        obtain ⟨m2, hm2⟩ : ∃ z, z = m1 + 1 := ⟨_, rfl⟩
        obtain ⟨m3, hm3⟩ : ∃ z, z = m2 + 1 := ⟨_, rfl⟩
        obtain ⟨m4, hm4⟩ : ∃ z, z = m3 + 1 := ⟨_, rfl⟩
        rw [show m + 1 = m1 by omega] at c1
        rw [show m + 2 = m2 by omega] at c2
        rw [show m + 3 = m3 by omega] at c3
        rw [show m + 4 = m4 by omega] at hkid
        have i1 : (m : Int) + 1 = (m1 : Int) := by omega
        have i2 : (m1 : Int) + 1 = (m2 : Int) := by omega
        have i3 : (m2 : Int) + 1 = (m3 : Int) := by omega
        have i4 : (m3 : Int) + 1 = (m4 : Int) := by omega
        obtain ⟨m5, hm5⟩ : ∃ z, z = m4 + 4 * cntL r[j].r := ⟨_, rfl⟩
        have hC : ∀ W : World, Below wr.heap.size wr W → Calls Try.prog 36 #[.slice A1 r[j].r.length cap1, .int .i64 (m4 : Int)] W fun e w' => e = .returned (.int .i64 (m5 : Int)) ∧ Below W.heap.size W w' := fun W hW => by
          rw [hm5]
          exact ih j hlt m4 _ P W (hkid.below hW fun b hb => Nat.lt_of_lt_of_le (hP b hb) hsz) (fun b hb => Nat.lt_of_lt_of_le (hP b hb) (Nat.le_trans hsz hW.size)) (by omega) (by omega)
        have HN := Lib.hid (show m5 = k0 + 4 * cntL (r.take (j + 1)) by omega)
        have hM : ∀ W : World, Calls Try.prog 34 #[.int .i64 (m1 : Int)] W fun e w' => e = .returned (.string (markT m1)) ∧ Below W.heap.size W w' := fun W => markText m1 (by omega) (by omega) W
        have hm5' : m5 ≤ 1099511627776 := by omega
        have hm5'' : 0 < m5 := by omega
        have b1 : decide ((m5 : Int) < 0) = false := by simp
        have b2 := teq_self (markT m1)
        have i0 : (j : Int) < (r.length : Int) := by omega
        clear h1 h2 h3 h5 HM hm1 hm2 hm3 hm4 hm5
        go_wp2_with fail
        go_region_held3 (fun w' => w'.cell? ⟨b, o + j * 5 + 1, none⟩ = some (.string (markT m1))) ((refine kc1 (W := wr) ?_ c1; repeat (first | exact Below.refl _ _ | refine Below.drew ?_ | refine Below.alloc ?_ (by (try simp); try omega) _ | refine Below.trans ?_ (hb3.mono (by (try simp); try omega)) | refine Below.trans ?_ (hb4.mono (by (try simp); try omega)) | refine Below.trans ?_ (hb5.mono (by (try simp); try omega)))))
          (first | (go_at_call 34; refine (hM _).mono ?_; rintro e w3 ⟨rfl, hb3⟩; have hw3 : Below wr.heap.size wr w3 := Below.trans (by repeat (first | exact Below.refl _ _ | refine Below.drew ?_ | refine Below.setCell ?_ (by (try simp); try omega) _ | refine Below.alloc ?_ (by (try simp); try omega) _)) (hb3.mono (by simp)); have c2' := kc1 hw3 c2; have c3' := kc1 hw3 c3; have c4' := kc1 hw3 c4))
        all_goals
          go_wp2_with (go_at_call 36; refine (hC _ (hw3.trans (Below.mono (by repeat (first | exact Below.refl _ _ | refine Below.drew ?_ | refine Below.setCell ?_ (by (try simp); try omega) _ | refine Below.alloc ?_ (by (try simp); try omega) _)) hw3.size))).mono ?_; rintro e w4 ⟨rfl, hb4⟩)
          go_roundw
          case rel => exact ⟨j + 1, m5, by go_num, rfl, HN, hm5'', hm5', by omega, hb.trans ((hw3.trans (Below.mono hb4 hw3.size)).mono hsz)⟩
          case measure => simp [intOf]; omega
      · obtain rfl : j = r.length := by omega
        have HN := Lib.hid (show m = k0 + 4 * cntL r by rw [HM.out, List.take_length])
        clear HM
        go_wp2_with fail
        go_ret
        exact ⟨ret_i HN.out, hb⟩
/-- Only the blocks F, and what is new, have turned. -/
structure Ch (F : List Nat) (w w' : World) : Prop where
  os : w'.os = w.os
  tape : w'.tape = w.tape
  output : w'.output = w.output
  size : w.heap.size ≤ w'.heap.size
  block : ∀ b, b < w.heap.size → b ∉ F → w'.heap[b]? = w.heap[b]?
theorem Ch.refl (F : List Nat) (w : World) : Ch F w w := ⟨rfl, rfl, rfl, Nat.le_refl _, fun _ _ _ => rfl⟩
theorem Ch.trans {F : List Nat} {a b c : World} (h : Ch F a b) (k : Ch F b c) : Ch F a c :=
  ⟨k.os.trans h.os, k.tape.trans h.tape, k.output.trans h.output, Nat.le_trans h.size k.size, fun x hx hF => (k.block x (Nat.lt_of_lt_of_le hx h.size) hF).trans (h.block x hx hF)⟩
theorem Ch.more {F F' : List Nat} {a b : World} (h : Ch F a b) (hs : ∀ x ∈ F, x ∈ F') : Ch F' a b := ⟨h.os, h.tape, h.output, h.size, fun x hx hF => h.block x hx fun hm => hF (hs x hm)⟩
theorem Ch.of_below {F : List Nat} {a b : World} (h : Below a.heap.size a b) : Ch F a b := ⟨h.os, h.tape, h.output, h.size, fun x hx _ => h.block x hx⟩
theorem Ch.set_ {F : List Nat} {a b : World} (h : Ch F a b) {p : Addr} (hp : p.block ∈ F) (u : Value) : Ch F a (b.setCell p u) :=
  ⟨h.os, h.tape, h.output, by simpa [World.setCell] using h.size, fun x hx hF => (heap_setCell_other b p x u (fun e => hF (by rw [e]; exact hp))).trans (h.block x hx hF)⟩
theorem Ch.below {F : List Nat} {a b : World} (h : Ch F a b) {B : Nat} (hB : ∀ x ∈ F, B ≤ x) (ha : B ≤ a.heap.size) : Below B a b :=
  ⟨h.os, h.tape, h.output, h.size, fun x hx => h.block x (by omega) fun hm => by have := hB x hm; omega⟩
theorem rowV_set4 : ∀ {R : List X} {S : List Value} {j : Nat} (_ : j < R.length) (_ : S.length = R.length) (x : X),
    ((((rowV R S).set (j * 5) (.int .i64 x.k)).set (j * 5 + 1) (.string x.t)).set (j * 5 + 2) (.int .i64 x.n)).set (j * 5 + 3) (.int .i64 x.l) = rowV (R.set j x) S
  | y :: R, u :: S, 0, _, _, x => by simp [rowV, cells5]
  | y :: R, u :: S, j + 1, h, hl, x => by
    have := rowV_set4 (R := R) (S := S) (j := j) (by simpa using h) (by simpa using hl) x
    have e : (j + 1) * 5 = j * 5 + 5 := by omega
    simp only [rowV, cells5, List.set_cons_succ, e, Nat.add_right_comm _ 5, List.cons_append, List.nil_append, ← this]
  | _ :: _, [], _, _, h, _ => by simp at h
theorem OwL.split {w : World} {B : Nat} : ∀ {r : List X} {S : List Value} {G : List Nat} {j : Nat}, OwL w B r S G → ∀ (h : j < r.length), ∃ S1 sj S2 G1 f G2, S = S1 ++ sj :: S2 ∧ S1.length = j ∧ G = G1 ++ (f ++ G2) ∧ OwL w B (r.take j) S1 G1 ∧ Ow w B r[j] sj f ∧ OwL w B (r.drop (j + 1)) S2 G2
  | x :: r, _, _, 0, ⟨s, S', f, F', rfl, rfl, h0, h1⟩, _ => ⟨[], s, S', [], f, F', rfl, rfl, rfl, ⟨rfl, rfl⟩, h0, h1⟩
  | x :: r, _, _, j + 1, ⟨s, S', f, F', rfl, rfl, h0, h1⟩, h => by
    obtain ⟨S1, sj, S2, G1, f', G2, rfl, hl, rfl, a, b, c⟩ := OwL.split h1 (j := j) (by simpa using h)
    exact ⟨s :: S1, sj, S2, f ++ G1, f', G2, rfl, by simp [hl], by simp, ⟨s, S1, f, G1, rfl, rfl, h0, a⟩, b, c⟩
theorem set_mark (r : List X) (k0 : Nat) {j : Nat} (h : j < r.length) : (markL (r.take j) k0 ++ r.drop j).set j (mark r[j] (k0 + 4 * cntL (r.take j))) = markL (r.take (j + 1)) k0 ++ r.drop (j + 1) := by
  have hl : (markL (r.take j) k0).length = j := by rw [markL_length]; simp; omega
  rw [List.set_append_right _ _ (by omega), hl, Nat.sub_self, List.drop_eq_getElem_cons h, List.set_cons_zero, take_more r h, markL_append, List.append_assoc]; rfl
/-- The four stores of a mark, the text being made between. -/
theorem mark_next {B g n cap k0 j m m1 m2 m3 m4 : Nat} {r : List X} {S1 S2 : List Value} {sj : Value} {G1 f G2 : List Nat} {wr w2 w4 : World} (hlt : j < r.length) (hm : m = k0 + 4 * cntL (r.take j))
    (hm1 : m1 = m + 1) (hm2 : m2 = m + 2) (hm3 : m3 = m + 3) (hm4 : m4 = m + 4) (hn : n = r.length)
    (ho : wr.ownsRow B 44 5 (.slice (some ⟨g, 0, none⟩) n cap) n (rowV (markL (r.take j) k0 ++ r.drop j) (S1 ++ sj :: S2)))
    (h1 : OwL wr B (markL (r.take j) k0) S1 G1) (h2 : OwL wr B (r.drop (j + 1)) S2 G2)
    (hnd : (g :: (G1 ++ (f ++ G2))).Nodup)
    (hb2 : Below (wr.setCell ⟨g, j * 5, none⟩ (.int .i64 (m : Int))).heap.size (wr.setCell ⟨g, j * 5, none⟩ (.int .i64 (m : Int))) w2)
    (hk4 : Ok w4 B (markL r[j].r m4) sj f)
    (hch : Ch f (((w2.setCell ⟨g, j * 5 + 1, none⟩ (.string (markT m1))).setCell ⟨g, j * 5 + 2, none⟩ (.int .i64 (m2 : Int))).setCell ⟨g, j * 5 + 3, none⟩ (.int .i64 (m3 : Int))) w4) :
    Ok w4 B (markL (r.take (j + 1)) k0 ++ r.drop (j + 1)) (.slice (some ⟨g, 0, none⟩) n cap) (g :: (G1 ++ (f ++ G2))) ∧ Ch (g :: (G1 ++ (f ++ G2))) wr w4 := by
  have hgw := (ho.lt g rfl).2
  have hb2s := hb2.size
  simp only [World.setCell, Array.size_modify] at hb2s
  have hl : (markL (r.take j) k0).length = j := by rw [markL_length]; simp; omega
  have hS1 := h1.len
  have hS2 := h2.len
  rw [List.length_drop] at hS2
  have o1 := (World.ownsRow.stored ho (j * 5) (.int .i64 (m : Int))).1
  have o2 := ownsRow_below o1 hb2 (fun k hk => (o1.lt k hk).2)
  have o3 := (World.ownsRow.stored (World.ownsRow.stored (World.ownsRow.stored o2 (j * 5 + 1) (.string (markT m1))).1 (j * 5 + 2) (.int .i64 (m2 : Int))).1 (j * 5 + 3) (.int .i64 (m3 : Int))).1
  have e4 := rowV_set4 (R := markL (r.take j) k0 ++ r.drop j) (S := S1 ++ sj :: S2) (j := j) (by simp [hl]; omega) (by simp [hS1, hl, hS2]; omega) (mark r[j] m)
  rw [mark_k, mark_t, mark_n, mark_l, ← hm1, ← hm2, ← hm3, hm, set_mark r k0 hlt, ← hm] at e4
  rw [e4] at o3
  rw [List.nodup_cons] at hnd
  obtain ⟨hg, hnd⟩ := hnd
  have hnf : g ∉ f := fun h => hg (List.mem_append.2 (.inr (List.mem_append.2 (.inl h))))
  have hw : ∀ b, b < wr.heap.size → b ≠ g → b ∉ f → w4.heap[b]? = wr.heap[b]? := fun b hb hbg hbf => by
    rw [hch.block b (by simp only [World.setCell, Array.size_modify]; omega) hbf, heap_setCell_other _ _ _ _ hbg, heap_setCell_other _ _ _ _ hbg, heap_setCell_other _ _ _ _ hbg, hb2.block b (by simp only [World.setCell, Array.size_modify]; omega), heap_setCell_other _ _ _ _ hbg]
  refine ⟨⟨S1 ++ sj :: S2, G1 ++ (f ++ G2), ?_, ?_, rfl⟩, ?_⟩
  · have hlen : (markL (r.take (j + 1)) k0 ++ r.drop (j + 1)).length = n := by simp [markL_length]; omega
    rw [hlen]
    refine ⟨o3.1, ?_⟩
    rcases o3.2 with h | ⟨g', cap', cur, e, hbg, hh, rest⟩
    · exact .inl h
    · refine .inr ⟨g', cap', cur, e, hbg, ?_, rest⟩
      have eg : g' = g := by injection e with e1; injection e1 with e2; injection e2 with e3; exact e3.symm
      subst eg
      rw [hch.block g' (by simp only [World.setCell, Array.size_modify]; omega) hnf]
      exact hh
  · have hfr : Ow w4 B (mark r[j] m) sj f := by
      refine Ok.ow ?_
      rw [mark_r, ← hm4]; exact hk4
    have d1 := List.nodup_append.1 hnd
    have d2 := List.nodup_append.1 d1.2.1
    have k1 : OwL w4 B (markL (r.take j) k0) S1 G1 := OwL.keep h1 fun b hb => hw b (OwL.lt h1 b hb).2 (fun e => hg (by rw [← e]; exact List.mem_append.2 (.inl hb))) (fun hbf => d1.2.2 b hb b (List.mem_append.2 (.inl hbf)) rfl)
    have k2 : OwL w4 B (r.drop (j + 1)) S2 G2 := OwL.keep h2 fun b hb => hw b (OwL.lt h2 b hb).2 (fun e => hg (by rw [← e]; exact List.mem_append.2 (.inr (List.mem_append.2 (.inr hb))))) (fun hbf => d2.2.2 b hbf b hb rfl)
    rw [take_more r hlt, markL_append, List.append_assoc, ← hm]
    exact OwL.append k1 (OwL.append (r := [mark r[j] m]) (OwL.one hfr) k2)
  · have hfF : ∀ b ∈ f, b ∈ g :: (G1 ++ (f ++ G2)) := fun b hb => List.mem_cons.2 (.inr (List.mem_append.2 (.inr (List.mem_append.2 (.inl hb)))))
    refine Ch.trans ?_ (hch.more hfF)
    refine Ch.set_ (Ch.set_ (Ch.set_ (Ch.trans (Ch.set_ (Ch.refl _ wr) (p := ⟨g, j * 5, none⟩) (by simp) _) (Ch.of_below hb2)) (by simp) _) (by simp) _) (by simp) _
theorem own_kid {w : World} {B g n cap j : Nat} {e : TypeId} {R : List X} {S : List Value} {v s : Value} (h : w.ownsRow B e 5 (.slice (some ⟨g, 0, none⟩) n cap) n ((rowV R S).set (j * 5) v)) (hj : j < n) (hR : j < R.length) (hs : S[j]? = some s) : w.cell? ⟨g, j * 5 + 4, none⟩ = some s := by
  rw [World.ownsRow.cellAt h (j * 5 + 4) (by omega), List.getElem?_set_ne (by omega), rowV_get hR hs 4 (by omega)]; rfl
set_option maxRecDepth 20000 in
set_option maxHeartbeats 4000000 in
theorem markW (x : X) : ∀ (k0 B : Nat) (s : Value) (F : List Nat) (w : World), Ok w B x.r s F → F.Nodup → 0 < k0 → k0 + 4 * cntL x.r ≤ 1099511627776 →
    Calls Try.prog 35 #[s, .int .i64 (k0 : Int)] w fun e w' => e = .returned (.int .i64 ((k0 + 4 * cntL x.r : Nat) : Int)) ∧ Ok w' B (markL x.r k0) s F ∧ Ch F w w' := by
  induction x using X.ind with
  | h k t n l r ih =>
    intro k0 B s F w hok hnd hk0 hkc
    obtain ⟨A, cap, hs⟩ := hok.form
    replace hs : s = .slice A r.length cap := hs
    subst hs
    replace hkc : k0 + 4 * cntL r ≤ 1099511627776 := hkc
    replace hok : Ok w B r (.slice A r.length cap) F := hok
    show Calls Try.prog 35 #[.slice A r.length cap, .int .i64 (k0 : Int)] w fun e w' => e = .returned (.int .i64 ((k0 + 4 * cntL r : Nat) : Int)) ∧ Ok w' B (markL r k0) (.slice A r.length cap) F ∧ Ch F w w'
    have hll := len_le_cntL r
    go_enter Try.func35, Try.ntmps35
    go_wp2_with fail
    go_loopw [1, 5] (fun a i wr => ∃ j m : Nat, i = .int .i64 j ∧ a = .int .i64 m ∧ Hid (m = k0 + 4 * cntL (r.take j)) ∧ 0 < m ∧ m ≤ 1099511627776 ∧ j ≤ r.length ∧ Hid (Ok wr B (markL (r.take j) k0 ++ r.drop j) (.slice A r.length cap) F ∧ Ch F w wr))
      (fun _ i _ => r.length - (intOf i).toNat)
    case atStart => exact ⟨0, k0, rfl, rfl, Lib.hid (by simp [cntL]), by omega, by omega, by omega, Lib.hid ⟨by simpa [markL] using hok, Ch.refl _ _⟩⟩
    case round =>
      obtain ⟨j, m, rfl, rfl, HM, hm0, hm, hj, HO⟩ := hrel
      by_cases hlt : j < r.length
      · obtain ⟨⟨S, G, ho, hG, rfl⟩, hch⟩ := HO.out
        have hRl : (markL (r.take j) k0 ++ r.drop j).length = r.length := by simp [markL_length]; omega
        rw [hRl] at ho
        obtain ⟨g, cap', e, -, -⟩ := ho.form (by omega)
        have eA : A = some ⟨g, 0, none⟩ := by injection e
        subst eA
        clear e
        obtain ⟨S1, sj, S2, G1, f, G2, rfl, hS1, rfl, h1, hj1, h2⟩ := OwL.split hG (j := j) (by omega)
        have hlm : (markL (r.take j) k0).length = j := by rw [markL_length]; simp; omega
        have et : (markL (r.take j) k0 ++ r.drop j).take j = markL (r.take j) k0 := by rw [List.take_append_of_le_length (by omega), List.take_of_length_le (by omega)]
        have ed : (markL (r.take j) k0 ++ r.drop j).drop (j + 1) = r.drop (j + 1) := by
          rw [List.drop_append, List.drop_of_length_le (by omega), hlm, List.nil_append, List.drop_drop]; congr 1; omega
        have eg : (markL (r.take j) k0 ++ r.drop j)[j]'(by omega) = r[j] := by
          rw [List.getElem_append_right (by omega)]; simp [hlm]
        rw [et] at h1
        rw [ed] at h2
        rw [eg] at hj1
        obtain ⟨A1, cap1, rfl⟩ := hj1.kids.form
        have hgw := (ho.lt g rfl).2
        have h3 := HM.out
        have hx1 := cntL_take r hlt
        have hx2 := cntL_le r (j + 1)
        have hx5 := cnt_r r[j]
        obtain ⟨m1, hm1⟩ : ∃ z, z = m + 1 := ⟨_, rfl⟩
        obtain ⟨m2, hm2⟩ : ∃ z, z = m1 + 1 := ⟨_, rfl⟩
        obtain ⟨m3, hm3⟩ : ∃ z, z = m2 + 1 := ⟨_, rfl⟩
        obtain ⟨m4, hm4⟩ : ∃ z, z = m3 + 1 := ⟨_, rfl⟩
        have i1 : (m : Int) + 1 = (m1 : Int) := by omega
        have i2 : (m1 : Int) + 1 = (m2 : Int) := by omega
        have i3 : (m2 : Int) + 1 = (m3 : Int) := by omega
        have i4 : (m3 : Int) + 1 = (m4 : Int) := by omega
        obtain ⟨m5, hm5⟩ : ∃ z, z = m4 + 4 * cntL r[j].r := ⟨_, rfl⟩
        have hndG := hnd
        simp only [blkL, Value.ownBlock, Option.toList, List.singleton_append] at hndG
        have hndc := List.nodup_cons.1 hndG
        have hd1 := List.nodup_append.1 hndc.2
        have hd2 := List.nodup_append.1 hd1.2.1
        have hgf : g ∉ f := fun h => hndc.1 (List.mem_append.2 (.inr (List.mem_append.2 (.inl h))))
        have hfl := hj1.kids.lt
        have hC : ∀ W : World, (∀ b ∈ f, W.heap[b]? = wr.heap[b]?) → Calls Try.prog 35 #[.slice A1 r[j].r.length cap1, .int .i64 (m4 : Int)] W fun e w' => e = .returned (.int .i64 (m5 : Int)) ∧ Ok w' B (markL r[j].r m4) (.slice A1 r[j].r.length cap1) f ∧ Ch f W w' := fun W hW => by
          rw [hm5]
          exact ih j hlt m4 B _ f W (hj1.kids.keep hW) hd2.1 (by omega) (by omega)
        have HN := Lib.hid (show m5 = k0 + 4 * cntL (r.take (j + 1)) by omega)
        have hM : ∀ W : World, Calls Try.prog 34 #[.int .i64 (m1 : Int)] W fun e w' => e = .returned (.string (markT m1)) ∧ Below W.heap.size W w' := fun W => markText m1 (by omega) (by omega) W
        have hm5' : m5 ≤ 1099511627776 := by omega
        have hm5'' : 0 < m5 := by omega
        have HE := Lib.hid (show m1 = m + 1 ∧ m2 = m + 2 ∧ m3 = m + 3 ∧ m4 = m + 4 by omega)
        obtain ⟨⟨u0, u1, u2, u3, u4, d0, d1, d2, d3, d4⟩, f0, f1, f2, f3, f4⟩ := own_cells5 ho hlt
        have hS2l := h2.len
        have o1 := (World.ownsRow.stored ho (j * 5) (.int .i64 (m : Int))).1
        have i0 : (j : Int) < (r.length : Int) := by omega
        have hRj : j < (markL (r.take j) k0 ++ r.drop j).length := by omega
        have hSj : (S1 ++ Value.slice A1 r[j].r.length cap1 :: S2)[j]? = some (.slice A1 r[j].r.length cap1) := by rw [List.getElem?_append_right (by omega), hS1, Nat.sub_self]; rfl
        have HSj := Lib.hid hSj
        have hfne : ∀ b ∈ f, b ≠ g := fun b hb e => hgf (by rw [← e]; exact hb)
        clear hx1 hx2 hx5 h3 hm1 hm2 hm3 hm4 hm5 et ed eg HO hG ih hRl hlm hSj
        go_wp2_with (first
          | (go_at_call 34; refine (hM _).mono ?_; rintro e w2 ⟨rfl, hb2⟩; have o2 := ownsRow_below o1 hb2 (fun k hk => (o1.lt k hk).2); obtain ⟨⟨p0, p1, p2, p3, p4, q0, q1, q2, q3, q4⟩, g0, g1, g2, g3, g4⟩ := own_cells5 o2 hlt; clear q4; have q4 := own_kid o2 hlt hRj HSj.out)
          | (go_at_call 35; refine (hC _ (fun b hb => by rw [heap_setCell_other _ _ _ _ (hfne b hb), heap_setCell_other _ _ _ _ (hfne b hb), heap_setCell_other _ _ _ _ (hfne b hb), hb2.block b (by simp only [World.setCell, Array.size_modify]; exact (hfl b hb).2), heap_setCell_other _ _ _ _ (hfne b hb)])).mono ?_; rintro e w4 ⟨rfl, hk4, hch4⟩))
        have hX := Lib.hid (mark_next hlt HM.out HE.out.1 HE.out.2.1 HE.out.2.2.1 HE.out.2.2.2 rfl ho h1 h2 hndG hb2 hk4 hch4)
        have hY := Lib.hid (And.intro hX.out.1 (hch.trans hX.out.2))
        clear hX hch4 hk4 ho h1 h2 hj1 o1 o2 hC hch
        go_roundw
        case rel => exact ⟨j + 1, m5, by go_num, rfl, HN, hm5'', hm5', by omega, hY⟩
        case measure => simp [intOf]; omega
      · obtain rfl : j = r.length := by omega
        obtain ⟨hok', hch⟩ := HO.out
        rw [List.take_length, List.drop_length, List.append_nil] at hok'
        have HN := Lib.hid (show m = k0 + 4 * cntL r by rw [HM.out, List.take_length])
        have HK := Lib.hid hok'
        clear HM HO hok'
        go_wp2_with fail
        go_ret
        exact ⟨ret_i HN.out, HK.out, hch⟩
theorem Ok.ch {w w' : World} {B : Nat} {r : List X} {s : Value} {F F' : List Nat} (h : Ok w B r s F') (hc : Ch F w w') (hd : ∀ b ∈ F', b ∉ F) : Ok w' B r s F' :=
  h.keep fun b hb => hc.block b (h.lt b hb).2 (hd b hb)
theorem Var.ch {w w' : World} {F : List Nat} {g : Nat} {k : Int} {t : ByteArray} {n l : Int} {s : Value} (h : Var w g k t n l s) (hc : Ch F w w') (hg : g ∉ F) : Var w' g k t n l s := by
  have e : ∀ o, w'.cell? ⟨g, o, none⟩ = w.cell? ⟨g, o, none⟩ := fun o => World.cell?_of_block (hc.block g h.lt hg)
  exact ⟨(e 0).trans h.1, (e 1).trans h.2.1, (e 2).trans h.2.2.1, (e 3).trans h.2.2.2.1, (e 4).trans h.2.2.2.2⟩
end X
end Go.Proofs.Ytljblaglfooclaa
