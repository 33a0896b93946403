/- Proved here: what the reference's draw of an expression gives (l6Draw, DrawEraseLines): some tree that fits the law's bound, in blocks of its own. Condition: the code's bytes can be read. -/
import Derived.Test.YtanmkeoieckebaaDoorTd
namespace Go.Proofs.YtanmkeoieckebaaDoor
open Go.RowKit
namespace X

/-- Some number from 1 to 5. -/
def SizeP (w : World) (e : Ending) (w' : World) : Prop := ∃ n : Nat, 1 ≤ n ∧ n ≤ 5 ∧ e = .returned (.int .i64 (n : Int)) ∧ w = w'
set_option maxHeartbeats 1000000 in
theorem l1Size5 (A : Option Addr) (n cap : Nat) (hn : n ≤ 1048576) (w : World) : Calls Tryd.prog 83 #[.slice A n cap, .int .i64 5] w (SizeP w) := by
  have i0 : IntKind.i64.wrap ((n : Int).tdiv 20) = (n : Int) / 20 := by rw [show (n : Int).tdiv 20 = ((n / 20 : Nat) : Int) from rfl, i64_in' (by omega)]; rfl
  have i1 : IntKind.i64.wrap (2 + (n : Int) / 20) = 2 + (n : Int) / 20 := i64_in' (by omega)
  by_cases h : 2 + n / 20 ≤ 5
  · have b0 : decide (5 < 2 + (n : Int) / 20) = false := decide_eq_false (by omega)
    go_enter Tryd.func83, Tryd.ntmps83
    go_wp2
    go_ret
    exact ⟨2 + n / 20, by omega, h, by simp, rfl⟩
  · have b0 : decide (5 < 2 + (n : Int) / 20) = true := decide_eq_true (by omega)
    go_enter Tryd.func83, Tryd.ntmps83
    go_wp2
    go_ret
    exact ⟨5, by omega, by omega, rfl, rfl⟩
/-- The five cells of a node. -/
def c5 (x : X) (s : Value) : Array Value := #[.int .i64 x.k, .string x.t, .int .i64 x.n, .int .i64 x.l, s]
/-- What holds between the statements. -/
def DrI (w wx : World) (g ge : Nat) (x : X) (s : Value) : Prop := Blk wx w.heap.size 29 z5 ∧ Blk wx ge 29 (c5 x s) ∧ Rd wx (fun b => g < b ∧ b ≠ ge ∧ b < wx.heap.size) x s ∧ Cur wx g ∧ Below w.heap.size w wx
theorem DrI.call {w wx w2 : World} {g ge : Nat} {x : X} {s : Value} (h : DrI w wx g ge x s) (h1 : w.heap.size < g) (h2 : g < ge) (hc : Cur w2 g) (hg : wx.grownBy w2 (some g)) : DrI w w2 g ge x s :=
  ⟨h.1.grown hg (by simp; omega), h.2.1.grown hg (by simp; omega), Rd.keep (fun p hp => World.cell?_of_block (hg.block p.block hp.2.2 (by have := hp.1; simp; omega))) (fun b hb => ⟨hb.1, hb.2.1, Nat.lt_of_lt_of_le hb.2.2 hg.size⟩) h.2.2.1, hc, only_own h.2.2.2.2 hg (by omega)⟩
theorem DrI.alloc {w wx : World} {g ge : Nat} {x : X} {s : Value} (h : DrI w wx g ge x s) (o : Obj) : DrI w (wx.alloc o) g ge x s :=
  ⟨h.1.alloc o, h.2.1.alloc o, Rd.keep (fun p hp => World.cell?_of_block (Below.heap_alloc wx o p.block hp.2.2)) (fun b hb => ⟨hb.1, hb.2.1, by simp; omega⟩) h.2.2.1, h.2.2.2.1.alloc o, h.2.2.2.2.alloc h.2.2.2.2.size o⟩
theorem Rd.rest {w : World} {P : Nat → Prop} {x y : X} {s : Value} (h : Rd w P x s) (e : y.r = x.r) : Rd w P y s := Kd.rd (by rw [e]; exact h.kids)
theorem DrI.set {w wx : World} {g ge : Nat} {x y : X} {s : Value} (h : DrI w wx g ge x s) (h1 : w.heap.size < g) (h2 : g < ge) (j : Nat) (v : Value) (e : y.r = x.r) (ec : (c5 x s).setIfInBounds j v = c5 y s) : DrI w (wx.setCell ⟨ge, j, none⟩ v) g ge y s :=
  ⟨h.1.far (p := ⟨ge, j, none⟩) (by show w.heap.size ≠ ge; omega) _, ec ▸ h.2.1.set_ j v, Rd.rest (Rd.keep (fun p hp => World.cell?_of_block (heap_setCell_other _ _ _ _ (by show p.block ≠ ge; exact hp.2.1))) (fun b hb => ⟨hb.1, hb.2.1, by simp [World.setCell]; exact hb.2.2⟩) h.2.2.1) e,
    h.2.2.2.1.far (p := ⟨ge, j, none⟩) h2 _, h.2.2.2.2.setCell (by show w.heap.size ≤ ge; omega) _⟩
theorem DrI.facts {w wx : World} {g ge : Nat} {k : Int} {t : ByteArray} {n l : Int} {r : List X} {s : Value} (h : DrI w wx g ge (.mk k t n l r) s) :
    (wx.cell? ⟨ge, 0, none⟩ = some (.int .i64 k) ∧ wx.cell? ⟨ge, 1, none⟩ = some (.string t) ∧ wx.cell? ⟨ge, 2, none⟩ = some (.int .i64 n) ∧ wx.cell? ⟨ge, 3, none⟩ = some (.int .i64 l) ∧ wx.cell? ⟨ge, 4, none⟩ = some s) ∧
    (wx.frozen? ⟨ge, 0, none⟩ = false ∧ wx.frozen? ⟨ge, 1, none⟩ = false ∧ wx.frozen? ⟨ge, 2, none⟩ = false ∧ wx.frozen? ⟨ge, 3, none⟩ = false ∧ wx.frozen? ⟨ge, 4, none⟩ = false) ∧ ge < wx.heap.size :=
  ⟨⟨h.2.1.cell 0, h.2.1.cell 1, h.2.1.cell 2, h.2.1.cell 3, h.2.1.cell 4⟩, ⟨h.2.1.frozen 0, h.2.1.frozen 1, h.2.1.frozen 2, h.2.1.frozen 3, h.2.1.frozen 4⟩, h.2.1.lt⟩
theorem DrI.res {w wx : World} {g ge : Nat} {x : X} {s : Value} (h : DrI w wx g ge x s) :
    (wx.cell? ⟨w.heap.size, 0, none⟩ = some (.int .i64 0) ∧ wx.cell? ⟨w.heap.size, 1, none⟩ = some (.string ⟨#[]⟩) ∧ wx.cell? ⟨w.heap.size, 2, none⟩ = some (.int .i64 0) ∧ wx.cell? ⟨w.heap.size, 3, none⟩ = some (.int .i64 0) ∧ wx.cell? ⟨w.heap.size, 4, none⟩ = some (.slice none 0 0)) ∧
    (wx.frozen? ⟨w.heap.size, 0, none⟩ = false ∧ wx.frozen? ⟨w.heap.size, 1, none⟩ = false ∧ wx.frozen? ⟨w.heap.size, 2, none⟩ = false ∧ wx.frozen? ⟨w.heap.size, 3, none⟩ = false ∧ wx.frozen? ⟨w.heap.size, 4, none⟩ = false) :=
  ⟨⟨h.1.cell 0, h.1.cell 1, h.1.cell 2, h.1.cell 3, h.1.cell 4⟩, ⟨h.1.frozen 0, h.1.frozen 1, h.1.frozen 2, h.1.frozen 3, h.1.frozen 4⟩⟩
/-- The five stores of a node into block b. -/
def st5 (W : World) (b : Nat) (a0 a1 a2 a3 a4 : Value) : World := ((((W.setCell ⟨b, 0, none⟩ a0).setCell ⟨b, 1, none⟩ a1).setCell ⟨b, 2, none⟩ a2).setCell ⟨b, 3, none⟩ a3).setCell ⟨b, 4, none⟩ a4
theorem st5_heap {W : World} {b c : Nat} {a0 a1 a2 a3 a4 : Value} (h : c ≠ b) : (st5 W b a0 a1 a2 a3 a4).heap[c]? = W.heap[c]? := by
  unfold st5
  have hne : ∀ j, c ≠ (⟨b, j, none⟩ : Addr).block := fun j => h
  rw [heap_setCell_other _ _ _ _ (hne 4), heap_setCell_other _ _ _ _ (hne 3), heap_setCell_other _ _ _ _ (hne 2), heap_setCell_other _ _ _ _ (hne 1), heap_setCell_other _ _ _ _ (hne 0)]
theorem st5_size {W : World} {b : Nat} {a0 a1 a2 a3 a4 : Value} : (st5 W b a0 a1 a2 a3 a4).heap.size = W.heap.size := by simp [st5, World.setCell]
theorem st5_blk {W : World} {b : Nat} {u0 u1 u2 u3 u4 a0 a1 a2 a3 a4 : Value} (h : Blk W b 29 #[u0, u1, u2, u3, u4]) : Blk (st5 W b a0 a1 a2 a3 a4) b 29 #[a0, a1, a2, a3, a4] := by
  simpa [st5] using ((((h.set_ 0 a0).set_ 1 a1).set_ 2 a2).set_ 3 a3).set_ 4 a4
theorem st5_below {a W : World} {B b : Nat} {a0 a1 a2 a3 a4 : Value} (h : Below B a W) (hb : B ≤ b) : Below B a (st5 W b a0 a1 a2 a3 a4) :=
  ((((h.setCell (p := ⟨b, 0, none⟩) hb _).setCell (p := ⟨b, 1, none⟩) hb _).setCell (p := ⟨b, 2, none⟩) hb _).setCell (p := ⟨b, 3, none⟩) hb _).setCell (p := ⟨b, 4, none⟩) hb _
theorem st5_cur {W : World} {g b : Nat} {a0 a1 a2 a3 a4 : Value} (h : Cur W g) (hb : g < b) : Cur (st5 W b a0 a1 a2 a3 a4) g :=
  ((((h.far (p := ⟨b, 0, none⟩) hb _).far (p := ⟨b, 1, none⟩) hb _).far (p := ⟨b, 2, none⟩) hb _).far (p := ⟨b, 3, none⟩) hb _).far (p := ⟨b, 4, none⟩) hb _
/-- A node around a node. -/
theorem DrI.wrap {w wx : World} {g ge : Nat} {k : Int} {t : ByteArray} {n l : Int} {r : List X} {s : Value} (h : DrI w wx g ge (.mk k t n l r) s) (h1 : w.heap.size < g) (h2 : g < ge) (j : Int) :
    DrI w ((st5 wx ge (.int .i64 27) (.string ⟨#[]⟩) (.int .i64 0) (.int .i64 j) (.slice (some ⟨wx.heap.size, 0, none⟩) 1 1)).alloc (.cells #[.int .i64 k, .string t, .int .i64 n, .int .i64 l, s] 29)) g ge (.mk 27 ⟨#[]⟩ 0 j [.mk k t n l r]) (.slice (some ⟨wx.heap.size, 0, none⟩) 1 1) := by
  have hge := h.2.1.lt
  generalize hG : wx.heap.size = G at hge ⊢
  have hsw := st5_size (W := wx) (b := ge) (a0 := .int .i64 27) (a1 := .string ⟨#[]⟩) (a2 := .int .i64 0) (a3 := .int .i64 j) (a4 := .slice (some ⟨G, 0, none⟩) 1 1)
  rw [hG] at hsw
  have hN : Blk ((st5 wx ge (.int .i64 27) (.string ⟨#[]⟩) (.int .i64 0) (.int .i64 j) (.slice (some ⟨G, 0, none⟩) 1 1)).alloc (.cells #[.int .i64 k, .string t, .int .i64 n, .int .i64 l, s] 29)) G 29 (c5 (.mk k t n l r) s) := Blk.new' hsw.symm
  have hz : ((st5 wx ge (.int .i64 27) (.string ⟨#[]⟩) (.int .i64 0) (.int .i64 j) (.slice (some ⟨G, 0, none⟩) 1 1)).alloc (.cells #[.int .i64 k, .string t, .int .i64 n, .int .i64 l, s] 29)).heap.size = G + 1 := by simp [hsw]
  have hb := st5_below (b := ge) (a0 := .int .i64 27) (a1 := .string ⟨#[]⟩) (a2 := .int .i64 0) (a3 := .int .i64 j) (a4 := .slice (some ⟨G, 0, none⟩) 1 1) h.2.2.2.2 (by omega)
  refine ⟨Blk.alloc ((st5_heap (by omega)).trans h.1) _, (st5_blk h.2.1).alloc _, ?_, (st5_cur h.2.2.2.1 h2).alloc _, hb.alloc hb.size _⟩
  refine ⟨some ⟨G, 0, none⟩, 1, [s], rfl, fun _ => ⟨G, 0, rfl, ⟨by omega, by omega, by omega⟩, fun i hi s' hs q u hu => ?_⟩, s, [], rfl, ?_, rfl⟩
  · obtain rfl : i = 0 := by simpa using hi
    obtain rfl : s = s' := by simpa using hs
    have hc := hN.cell q
    have e : 0 + 0 * 5 + q = q := by omega
    rw [e, hc]
    simpa [c5, cells5] using hu
  · refine Rd.keep (fun p hp => World.cell?_of_block ((Below.heap_alloc _ _ p.block (by rw [hsw, ← hG]; exact hp.2.2)).trans (st5_heap hp.2.1))) (fun b hb => ⟨hb.1, hb.2.1, ?_⟩) h.2.2.1
    have := hb.2.2
    omega
theorem wfSet {k : Int} {t u : ByteArray} {n l z : Int} {r : List X} {m : Nat} (h : Wf (.mk k t n l r) ∧ siz (.mk k t n l r) ≤ m) (hu : u.size ≤ 5) (hz : -1 ≤ z ∧ z ≤ 9) : Wf (.mk k u z l r) ∧ siz (.mk k u z l r) ≤ m + 5 := by
  obtain ⟨⟨h1, h2, h3, h4⟩, h5⟩ := h
  refine ⟨⟨h1, by unfold maxLen; omega, by omega, h4⟩, ?_⟩
  simp only [siz] at h5 ⊢
  omega
theorem wfWrap {x : X} {m : Nat} (h : Wf x ∧ siz x ≤ m) {j : Nat} (hj : j ≤ 100) : Wf (.mk 27 ⟨#[]⟩ 0 (j : Int) [x]) ∧ siz (.mk 27 ⟨#[]⟩ 0 (j : Int) [x]) ≤ m + 1 := by
  refine ⟨⟨by omega, Nat.zero_le _, by omega, by omega, by simp [maxLen], h.1, trivial⟩, ?_⟩
  have := h.2
  show 0 + (1 + (siz x + 0)) ≤ m + 1
  omega
set_option maxRecDepth 20000 in
set_option maxHeartbeats 2000000 in
/-- The draw gives some tree. -/
theorem l6Draw (A : Option Addr) (n cap : Nat) (w : World) (hc : CodeAt w A n) : Calls Tryd.prog 41 #[.slice A n cap] w fun e w' => ∃ x s, (Wf x ∧ siz x ≤ 1048576) ∧ e = .returned (val x s) ∧ Rd w' (fun b => w.heap.size < b ∧ b < w'.heap.size) x s ∧ Below w.heap.size w w' := by
  have hn := hc.1
  have hR0 : Blk (w.alloc (.cells #[.int .i64 0, .string ⟨#[]⟩, .int .i64 0, .int .i64 0, .slice none 0 0] 29)) w.heap.size 29 z5 := Blk.new _ _ _
  have hcode := hc.kept ((Below.refl _ _).alloc (Nat.le_refl _) (.cells #[.int .i64 0, .string ⟨#[]⟩, .int .i64 0, .int .i64 0, .slice none 0 0] 29))
  clear hc
  go_enter Tryd.func41, Tryd.ntmps41
  go_upto_region 3 with (first
    | (go_at_call 63; refine (l1New A n cap _ hcode).mono ?_; rintro e w1 ⟨g, rfl, hg, hc1, hb1⟩; simp at hg; have hR1 := hR0.kept hb1; have hbb : Below w.heap.size w w1 := Below.trans (by repeat (first | exact Below.refl _ _ | refine Below.drew ?_ | refine Below.setCell ?_ (by (try simp); try omega) _ | refine Below.alloc ?_ (by (try simp); try omega) _)) (hb1.mono (by simp)); clear hcode hb1)
    | (go_at_call 83; refine (l1Size5 A n cap hn _).mono ?_; rintro e w2 ⟨m, hm1, hm5, rfl, rfl⟩)
    | (go_at_call 68; refine (l1Below m (by omega) (by omega) g _ hc1).mono ?_; rintro e w3 ⟨y, hy, rfl, hc3, hg3⟩; have hR3 := hR1.grown hg3 (by simp; omega); have hbb3 := only_own hbb hg3 (by omega); have hgl := hc3.lt; obtain ⟨D, hD⟩ : ∃ D : Nat, 2 + (y : Int) = (D : Int) := ⟨2 + y, by omega⟩; have hD1 : 1 ≤ D ∧ D ≤ 6 := (by omega); have iD : IntKind.i64.wrap (2 + (y : Int)) = (D : Int) := (by rw [i64_in' (by omega)]; exact hD); clear hD)
    | (go_at_call 82; refine (l6Tree D hD1.1 hD1.2 g _ hc3).mono ?_; rintro e w4 ⟨x, s, hT, rfl, hR, hc4, hg4⟩; have hR4 := hR3.grown hg4 (by simp; omega); have hbb4 := only_own hbb3 hg4 (by omega); have hz4 := hg4.size; obtain ⟨A9, cap9, rfl⟩ := hR.kids.form; unfold val))
  have hTT : Wf x ∧ siz x ≤ 1012433 := ⟨hT.1, Nat.le_trans hT.2 (bd_le hD1.2)⟩
  have hgw : w.heap.size < g := by omega
  have hge : g < w4.heap.size := hc4.lt
  have hM : DrI w (w4.alloc (.cells #[.int .i64 x.k, .string x.t, .int .i64 x.n, .int .i64 x.l, .slice A9 x.r.length cap9] 29)) g w4.heap.size x (.slice A9 x.r.length cap9) :=
    ⟨hR4.alloc _, Blk.new _ _ _, Rd.keep (fun p hp => World.cell?_of_block (Below.heap_alloc w4 _ p.block hp.2)) (fun b hb => ⟨by have := hb.1; omega, by have := hb.2; omega, by have := hb.2; simp; omega⟩) hR, hc4.alloc _, hbb4.alloc hbb4.size _⟩
  generalize w4.alloc (.cells #[.int .i64 x.k, .string x.t, .int .i64 x.n, .int .i64 x.l, .slice A9 x.r.length cap9] 29) = W4 at hM ⊢
  generalize w4.heap.size = ge at hM hge ⊢
  have HX := Lib.hid hTT
  clear hTT hT hR hR0 hR1 hR3 hR4 hbb hbb3 hbb4 hc1 hc3 hc4 hg3 hg4 hD1 iD hy hm1 hm5 hgl hz4
  obtain ⟨k, t, n, l, r⟩ := x
  change DrI w W4 g ge (.mk k t n l r) (.slice A9 r.length cap9) at hM
  obtain ⟨⟨a0, a1, a2, a3, a4⟩, ⟨f0, f1, f2, f3, f4⟩, hlt⟩ := hM.facts
  clear a0 a1 a2 a3 a4 f0 f1 f2 f3 f4 hlt
  go_upto_if 16 with (go_at_call 66; refine (l1Once 8 (by omega) (by omega) g _ hM.2.2.2.1).mono ?_; rintro e w5 ⟨b, rfl, hc5, hg5⟩; have hM := hM.call hgw hge hc5 hg5)
  go_cut [] (fun wx => ∃ (k : Int) (t : ByteArray) (n l : Int) (r : List X) (A9 : Option Addr) (cap9 : Nat), Hid (Wf (.mk k t n l r) ∧ siz (.mk k t n l r) ≤ 1012438) ∧ DrI w wx g ge (.mk k t n l r) (.slice A9 r.length cap9))
  case first =>
    cases b with
    | true =>
      go_wp2_with (first
        | (go_at_call 84; refine Calls.mono (l1PickLit sz5 rfl hM.2.2.2.1 (by decide) rfl (by omega) (by omega)) ?_; rintro e w6 ⟨u, hu, rfl, hc6, hg6⟩; have hM := (hM.alloc _).call hgw hge hc6 hg6; obtain ⟨⟨a0, a1, a2, a3, a4⟩, ⟨f0, f1, f2, f3, f4⟩, hlt⟩ := hM.facts; have hM := hM.set (y := .mk k u n l r) hgw hge 1 (.string u) rfl rfl; have HU := Lib.hid hu; clear hu)
        | (go_at_call 68; refine (l1Below 3 (by omega) (by omega) g _ hM.2.2.2.1).mono ?_; rintro e w7 ⟨y, hy, rfl, hc7, hg7⟩; have hM := hM.call hgw hge hc7 hg7; clear a0 a1 a2 a3 a4 f0 f1 f2 f3 f4 hlt; obtain ⟨⟨a0, a1, a2, a3, a4⟩, ⟨f0, f1, f2, f3, f4⟩, hlt⟩ := hM.facts; have iy : IntKind.i64.wrap ((y : Int) - 1) = (y : Int) - 1 := i64_in' (by omega)))
      go_meet
      exact ⟨k, u, (y : Int) - 1, l, r, A9, cap9, Lib.hid (wfSet HX.out (sz5_iff HU.out) (by omega)), hM.set (y := .mk k u ((y : Int) - 1) l r) hgw hge 2 _ rfl rfl⟩
    | false =>
      go_wp2_with fail
      go_meet
      exact ⟨k, t, n, l, r, A9, cap9, Lib.hid ⟨HX.out.1, by have := HX.out.2; omega⟩, hM⟩
  case rest =>
  clear hM HX
  obtain ⟨k, t, n, l, r, A9, cap9, HX, hM⟩ := hcut
  go_upto_if 26 with (go_at_call 66; refine (l1Once 20 (by omega) (by omega) g _ hM.2.2.2.1).mono ?_; rintro e w8 ⟨b, rfl, hc8, hg8⟩; have hM := hM.call hgw hge hc8 hg8)
  go_cut [5] (fun _ wx => ∃ (k : Int) (t : ByteArray) (n l : Int) (r : List X) (A9 : Option Addr) (cap9 : Nat), Hid (Wf (.mk k t n l r) ∧ siz (.mk k t n l r) ≤ 1048576) ∧ DrI w wx g ge (.mk k t n l r) (.slice A9 r.length cap9))
  case first =>
    cases b with
    | true =>
      go_wp2_with fail
      go_loopw [5] (fun i wr => ∃ (j : Nat) (k : Int) (t : ByteArray) (n l : Int) (r : List X) (A9 : Option Addr) (cap9 : Nat), i = .int .i64 (j : Int) ∧ j ≤ 41 ∧ Hid (Wf (.mk k t n l r) ∧ siz (.mk k t n l r) ≤ 1012438 + j) ∧ DrI w wr g ge (.mk k t n l r) (.slice A9 r.length cap9)) (fun i _ => 41 - (intOf i).toNat)
      case atStart => exact ⟨0, k, t, n, l, r, A9, cap9, rfl, by omega, HX, hM⟩
      case round =>
        clear hM HX
        obtain ⟨j, k, t, n, l, r, A9, cap9, rfl, hj, HX, hM⟩ := hrel
        go_upto_if 31 with (go_at_call 68; refine (l1Below 4 (by omega) (by omega) g _ hM.2.2.2.1).mono ?_; rintro e w9 ⟨y, hy, rfl, hc9, hg9⟩; have hM := hM.call hgw hge hc9 hg9; obtain ⟨⟨a0, a1, a2, a3, a4⟩, ⟨f0, f1, f2, f3, f4⟩, hlt⟩ := hM.facts; obtain ⟨c, hc⟩ : ∃ c : Nat, 38 + (y : Int) = (c : Int) := ⟨38 + y, by omega⟩; have hcb : c ≤ 41 := (by omega); have ic : IntKind.i64.wrap (38 + (y : Int)) = (c : Int) := (by rw [i64_in' (by omega)]; exact hc); clear hc)
        by_cases hjc : j < c
        · go_wp2_with fail
          have HN := Lib.hid (wfWrap HX.out (j := j) (by omega))
          have hMM := hM.wrap hgw hge (j : Int)
          clear hM HX a0 a1 a2 a3 a4 f0 f1 f2 f3 f4
          go_roundw
          case rel => exact ⟨j + 1, 27, ⟨#[]⟩, 0, (j : Int), [.mk k t n l r], some ⟨w9.heap.size, 0, none⟩, 1, by go_num, by omega, HN, hMM⟩
          case measure => simp [intOf]; omega
        · go_wp2_with fail
          go_meet
          exact ⟨k, t, n, l, r, A9, cap9, Lib.hid ⟨HX.out.1, by have := HX.out.2; omega⟩, hM⟩
    | false =>
      go_wp2_with fail
      go_meet
      exact ⟨k, t, n, l, r, A9, cap9, Lib.hid ⟨HX.out.1, by have := HX.out.2; omega⟩, hM⟩
  case rest =>
  clear hM HX
  obtain ⟨k, t, n, l, r, A9, cap9, HX, hM⟩ := hcut
  obtain ⟨⟨a0, a1, a2, a3, a4⟩, ⟨f0, f1, f2, f3, f4⟩, hlt⟩ := hM.facts
  obtain ⟨⟨r0, r1, r2, r3, r4⟩, ⟨s0, s1, s2, s3, s4⟩⟩ := hM.res
  go_wp2_with fail
  refine bodyPost_ret (v := .agg #[.int .i64 k, .string t, .int .i64 n, .int .i64 l, .slice A9 r.length cap9]) (by simp [results, Tryd.results41, go_sem, r0, r1, r2, r3, r4]) rfl ?_
  refine ⟨.mk k t n l r, .slice A9 r.length cap9, HX.out, rfl, ?_, st5_below hM.2.2.2.2 (Nat.le_refl _)⟩
  exact Rd.keep (fun p hp => World.cell?_of_block (st5_heap (by have := hp.1; omega))) (fun b hb => ⟨by have := hb.1; omega, by have := hb.2.2; rw [show ((((wc.setCell ⟨w.heap.size, 0, none⟩ (.int .i64 k)).setCell ⟨w.heap.size, 1, none⟩ (.string t)).setCell ⟨w.heap.size, 2, none⟩ (.int .i64 n)).setCell ⟨w.heap.size, 3, none⟩ (.int .i64 l)).setCell ⟨w.heap.size, 4, none⟩ (.slice A9 r.length cap9) = st5 wc w.heap.size (.int .i64 k) (.string t) (.int .i64 n) (.int .i64 l) (.slice A9 r.length cap9) from rfl, st5_size]; exact this⟩) hM.2.2.1
theorem drawEraseLines (A : Option Addr) (n cap : Nat) (w : World) (hc : CodeAt w A n) : Calls Tryd.prog 15 #[.slice A n cap] w fun e w' => ∃ x s, (Wf x ∧ siz x ≤ 1048576) ∧ e = .returned (val x s) ∧ Rd w' (fun b => w.heap.size < b ∧ b < w'.heap.size) x s ∧ Below w.heap.size w w' := by
  have hR0 : Blk (w.alloc (.cells #[.int .i64 0, .string ⟨#[]⟩, .int .i64 0, .int .i64 0, .slice none 0 0] 29)) w.heap.size 29 z5 := Blk.new _ _ _
  have hcode := hc.kept ((Below.refl _ _).alloc (Nat.le_refl _) (.cells #[.int .i64 0, .string ⟨#[]⟩, .int .i64 0, .int .i64 0, .slice none 0 0] 29))
  clear hc
  go_enter Tryd.func15, Tryd.ntmps15
  go_wp2_with (go_at_call 41; refine (l6Draw A n cap _ hcode).mono ?_; rintro e w1 ⟨x, s, hX, rfl, hR, hb1⟩; have hR1 := hR0.kept hb1; have hbb : Below w.heap.size w w1 := Below.trans (by repeat (first | exact Below.refl _ _ | refine Below.drew ?_ | refine Below.setCell ?_ (by (try simp); try omega) _ | refine Below.alloc ?_ (by (try simp); try omega) _)) (hb1.mono (by simp)); clear hcode hb1; have HX := Lib.hid hX; clear hX; obtain ⟨A9, cap9, rfl⟩ := hR.kids.form; have HR := Lib.hid hR; clear hR; unfold val; have r0 := hR1.cell 0; have s0 := hR1.frozen 0; have r1 := hR1.cell 1; have s1 := hR1.frozen 1; have r2 := hR1.cell 2; have s2 := hR1.frozen 2; have r3 := hR1.cell 3; have s3 := hR1.frozen 3; have r4 := hR1.cell 4; have s4 := hR1.frozen 4; simp [z5] at r0 r1 r2 r3 r4)
  refine bodyPost_ret (v := val x (.slice A9 x.r.length cap9)) (by simp [results, Tryd.results15, go_sem, r0, r1, r2, r3, r4, val]) rfl ?_
  refine ⟨x, .slice A9 x.r.length cap9, HX.out, rfl, ?_, st5_below hbb (Nat.le_refl _)⟩
  exact Rd.keep (fun p hp => World.cell?_of_block (st5_heap (by have := hp.1; simp at this; omega))) (fun b hb => ⟨by have := hb.1; simp at this; omega, by have := hb.2; rw [show ((((w1.setCell ⟨w.heap.size, 0, none⟩ (.int .i64 x.k)).setCell ⟨w.heap.size, 1, none⟩ (.string x.t)).setCell ⟨w.heap.size, 2, none⟩ (.int .i64 x.n)).setCell ⟨w.heap.size, 3, none⟩ (.int .i64 x.l)).setCell ⟨w.heap.size, 4, none⟩ (.slice A9 x.r.length cap9) = st5 w1 w.heap.size (.int .i64 x.k) (.string x.t) (.int .i64 x.n) (.int .i64 x.l) (.slice A9 x.r.length cap9) from rfl, st5_size]; exact this⟩) HR.out
end X
end Go.Proofs.YtanmkeoieckebaaDoor
