/- Proved here: the law's copies of record types, procedures and units are the call's own. Condition: the lists fit. Proved here: the law's copies of lists of record types and of procedures, and of units, are the call's own. Condition: the lists fit. -/
import Derived.Test.YtljblaglfooclaaUn
import Derived.Test.YtljblaglfooclaaUz
namespace Go.Proofs.Ytljblaglfooclaa
open Go.RowKit

theorem toS_at {l : List ByteArray} {s : Value} {P : Nat → Prop} {w : World} (hK : Sr w P s l) (hP : ∀ b, P b → b < w.heap.size) (hl : l.length ≤ 1099511627776) (W : World) (hW : Below w.heap.size w W) :
    Calls Try.prog 16 #[s] W fun e w' => ∃ A cap, e = .returned (.slice A l.length cap) ∧ SBuf w' W.heap.size (.slice A l.length cap) l ∧ Below W.heap.size W w' :=
  toS l s P W (hK.below hW hP) (fun b hb => Nat.lt_of_lt_of_le (hP b hb) hW.size) hl
/-- All blocks from B on have stayed. -/
def Hi (B : Nat) (w w' : World) : Prop := ∀ b, B ≤ b → w'.heap[b]? = w.heap[b]?
theorem Hi.refl (B : Nat) (w : World) : Hi B w w := fun _ _ => rfl
theorem Hi.set_ {B : Nat} {w w' : World} (h : Hi B w w') {p : Addr} (hp : p.block < B) (u : Value) : Hi B w (w'.setCell p u) := fun b hb => (heap_setCell_other _ _ _ _ (by omega)).trans (h b hb)
theorem SBuf.hi {w w' : World} {B C : Nat} {s : Value} {l : List ByteArray} (h : SBuf w B s l) (hh : Hi C w w') (hC : C ≤ B) : SBuf w' B s l := h.keepL fun b hb => hh b (Nat.le_trans hC (h.ltL b hb).1)
theorem Ok.hi {w w' : World} {B C : Nat} {r : List X} {s : Value} {F : List Nat} (h : X.Ok w B r s F) (hh : Hi C w w') (hC : C ≤ B) : X.Ok w' B r s F := h.keep fun b hb => hh b (Nat.le_trans hC (h.lt b hb).1)
theorem blkL_nodup (s : Value) : (X.blkL s).Nodup := by
  unfold X.blkL
  cases s.ownBlock <;> simp
theorem apart3 {s1 s2 : Value} {F3 : List Nat} {b c : Nat} (h1 : ∀ x ∈ X.blkL s1, x < b) (h2 : ∀ x ∈ X.blkL s2, b ≤ x ∧ x < c) (h3 : ∀ x ∈ F3, c ≤ x) (hbc : b ≤ c) (hn : F3.Nodup) : (X.blkL s1 ++ (X.blkL s2 ++ F3)).Nodup :=
  List.nodup_append.2 ⟨blkL_nodup s1, List.nodup_append.2 ⟨blkL_nodup s2, hn, fun x hx y hy => by have := h2 x hx; have := h3 y hy; omega⟩, fun x hx y hy => by
    have := h1 x hx
    rcases List.mem_append.1 hy with hy | hy
    · have := h2 y hy; omega
    · have := h3 y hy; omega⟩
theorem Blk.fr {w : World} {g : Nat} {t : TypeId} {cs : Array Value} (h : Blk w g t cs) : ∀ i, w.frozen? ⟨g, i, none⟩ = false := h.frozen
set_option maxHeartbeats 2000000 in
theorem toRt (a : Rt) (s : Value) (P : Nat → Prop) (w : World) (hK : Sr w P s a.f) (hP : ∀ b, P b → b < w.heap.size) (hl : a.f.length ≤ 1099511627776) :
    Calls Try.prog 30 #[.agg #[.string a.t, s, .int .i64 a.l]] w fun e w' => ∃ A cap, e = .returned (.agg #[.string a.t, .slice A a.f.length cap, .int .i64 a.l]) ∧ SBuf w' w.heap.size (.slice A a.f.length cap) a.f ∧ Below w.heap.size w w' := by
  have hC := toS_at hK hP hl
  obtain ⟨A, cap, rfl⟩ := hK.form
  obtain ⟨t, f, l⟩ := a
  replace hC : ∀ W : World, Below w.heap.size w W → Calls Try.prog 16 #[.slice A f.length cap] W fun e w' => ∃ A cap, e = .returned (.slice A f.length cap) ∧ SBuf w' W.heap.size (.slice A f.length cap) f ∧ Below W.heap.size W w' := hC
  clear hK hl
  show Calls Try.prog 30 #[.agg #[.string t, .slice A f.length cap, .int .i64 l]] w fun e w' => ∃ A cap, e = .returned (.agg #[.string t, .slice A f.length cap, .int .i64 l]) ∧ SBuf w' w.heap.size (.slice A f.length cap) f ∧ Below w.heap.size w w'
  go_enter Try.func30, Try.ntmps30
  go_wp2_with (go_at_call 16; refine (hC _ (by repeat (first | exact Below.refl _ _ | refine Below.drew ?_ | refine Below.setCell ?_ (by (try simp); try omega) _ | refine Below.alloc ?_ (by (try simp); try omega) _))).mono ?_; rintro e w1 ⟨A2, cap2, rfl, hk1, hb1⟩; obtain ⟨hbc, hbf⟩ := bcell hb1)
  have hz := hb1.size
  simp at hz
  refine bodyPost_ret (v := .agg #[.string t, .slice A2 f.length cap2, .int .i64 l]) (by simp [results, Try.results30, go_sem, hbc]) rfl ⟨A2, cap2, rfl, ?_, ?_⟩
  · exact SBuf.mono (hk1.hi (C := w.heap.size + 1 + 1 + 1) (by repeat (first | with_reducible exact Hi.refl _ _ | with_reducible refine Hi.set_ ?_ (by simp) _)) (by simp)) (by simp; omega)
  · repeat (with_reducible refine Below.setCell ?_ (by (try simp); try omega) _)
    refine Below.trans ?_ (hb1.mono (by simp; try omega))
    repeat (first | exact Below.refl _ _ | refine Below.drew ?_ | refine Below.setCell ?_ (by (try simp); try omega) _ | refine Below.alloc ?_ (by (try simp); try omega) _)
set_option maxHeartbeats 4000000 in
theorem toPd (a : Pd) (s1 s2 s3 : Value) (P : Nat → Prop) (w : World) (hK1 : Sr w P s1 a.p) (hK2 : Sr w P s2 a.q) (hK3 : X.Kd w P a.x.r s3) (hP : ∀ b, P b → b < w.heap.size) (hl : a.siz ≤ 1099511627776) :
    Calls Try.prog 31 #[.agg #[.string a.t, s1, s2, .int .i64 a.x.k, .string a.x.t, .int .i64 a.x.n, .int .i64 a.x.l, s3, .int .i64 a.l]] w fun e w' => ∃ A1 c1 A2 c2 A3 c3 F,
      e = .returned (.agg #[.string a.t, .slice A1 a.p.length c1, .slice A2 a.q.length c2, .int .i64 a.x.k, .string a.x.t, .int .i64 a.x.n, .int .i64 a.x.l, .slice A3 a.x.r.length c3, .int .i64 a.l]) ∧
      iP w' w.heap.size (a, .slice A1 a.p.length c1, .slice A2 a.q.length c2, .slice A3 a.x.r.length c3) F ∧ F.Nodup ∧ Below w.heap.size w w' := by
  have hz0 : a.siz = a.t.size + ((a.p.length + sizS a.p) + ((a.q.length + sizS a.q) + X.siz a.x)) := rfl
  have hC1 := toS_at hK1 hP (by omega)
  have hC2 := toS_at hK2 hP (by omega)
  have hC3 : ∀ W : World, Below w.heap.size w W → Calls Try.prog 38 #[X.val a.x s3] W fun e w' => ∃ A cap F, e = .returned (X.val a.x (.slice A a.x.r.length cap)) ∧ X.Ok w' W.heap.size a.x.r (.slice A a.x.r.length cap) F ∧ F.Nodup ∧ Below W.heap.size W w' := fun W hW =>
    (X.toX a.x s3 P W (hK3.below hW hP).rd (fun b hb => Nat.lt_of_lt_of_le (hP b hb) hW.size) (by omega)).mono fun e w' ⟨s', F, he, hk, hn, hb⟩ => by
      obtain ⟨A, cap, rfl⟩ := hk.form
      exact ⟨A, cap, F, he, hk, hn, hb⟩
  obtain ⟨A1, cap1, rfl⟩ := hK1.form
  obtain ⟨A2, cap2, rfl⟩ := hK2.form
  obtain ⟨A3, cap3, rfl⟩ := hK3.form
  obtain ⟨t, p, q, ⟨k, u, n, y, r⟩, l⟩ := a
  clear hK1 hK2 hK3 hl hz0
  replace hC1 : ∀ W : World, Below w.heap.size w W → Calls Try.prog 16 #[.slice A1 p.length cap1] W fun e w' => ∃ A cap, e = .returned (.slice A p.length cap) ∧ SBuf w' W.heap.size (.slice A p.length cap) p ∧ Below W.heap.size W w' := hC1
  replace hC2 : ∀ W : World, Below w.heap.size w W → Calls Try.prog 16 #[.slice A2 q.length cap2] W fun e w' => ∃ A cap, e = .returned (.slice A q.length cap) ∧ SBuf w' W.heap.size (.slice A q.length cap) q ∧ Below W.heap.size W w' := hC2
  replace hC3 : ∀ W : World, Below w.heap.size w W → Calls Try.prog 38 #[.agg #[.int .i64 k, .string u, .int .i64 n, .int .i64 y, .slice A3 r.length cap3]] W fun e w' => ∃ A cap F, e = .returned (.agg #[.int .i64 k, .string u, .int .i64 n, .int .i64 y, .slice A r.length cap]) ∧ X.Ok w' W.heap.size r (.slice A r.length cap) F ∧ F.Nodup ∧ Below W.heap.size W w' := hC3
  show Calls Try.prog 31 #[.agg #[.string t, .slice A1 p.length cap1, .slice A2 q.length cap2, .int .i64 k, .string u, .int .i64 n, .int .i64 y, .slice A3 r.length cap3, .int .i64 l]] w fun e w' => ∃ A1 c1 A2 c2 A3 c3 F,
      e = .returned (.agg #[.string t, .slice A1 p.length c1, .slice A2 q.length c2, .int .i64 k, .string u, .int .i64 n, .int .i64 y, .slice A3 r.length c3, .int .i64 l]) ∧
      iP w' w.heap.size (⟨t, p, q, .mk k u n y r, l⟩, .slice A1 p.length c1, .slice A2 q.length c2, .slice A3 r.length c3) F ∧ F.Nodup ∧ Below w.heap.size w w'
  have hbb : Below w.heap.size w w := Below.refl _ _
  have hzz := hbb.size
  go_enter Try.func31, Try.ntmps31
  go_wp2_with (first
    | (go_at_call 38; refine (hC3 _ (by repeat (first | exact hbb | refine Below.drew ?_ | refine Below.setCell ?_ (by (try simp); try omega) _ | refine Below.alloc ?_ (by (try simp); try omega) _))).mono ?_; rintro e w3 ⟨A6, cap6, F6, rfl, hk3, hn3, hb3⟩; have hbb := X.grow (w := w) (by repeat (first | exact hbb | refine Below.drew ?_ | refine Below.setCell ?_ (by (try simp); try omega) _ | refine Below.alloc ?_ (by (try simp); try omega) _)) hb3; have hz3 := hb3.size; simp only [World.setCell, Array.size_modify] at hz3; have hp := (hp.far (by simp; omega) _).kept hb3; have hr := (hr.far (by simp) _).kept hb3; have ho : Blk w3 (w.heap.size + 1 + 1) 46 #[.string t, .slice A4 p.length cap4, .slice A5 q.length cap5, .int .i64 0, .string ⟨#[]⟩, .int .i64 0, .int .i64 0, .slice none 0 0, .int .i64 0] := (ho.set_ 2 _).kept hb3; obtain ⟨p0, p1, p2, p3, p4, p5, p6, p7, p8⟩ := Blk.c9 hp; obtain ⟨o0, o1, o2, o3, o4, o5, o6, o7, o8⟩ := Blk.c9 ho; obtain ⟨r0, r1, r2, r3, r4, r5, r6, r7, r8⟩ := Blk.c9 hr; have of := ho.fr; have rf := hr.fr)
    | (have hg1 := g1; go_at_call 16; refine (hC2 _ (by repeat (first | exact hbb | refine Below.drew ?_ | refine Below.setCell ?_ (by (try simp); try omega) _ | refine Below.alloc ?_ (by (try simp); try omega) _))).mono ?_; rintro e w2 ⟨A5, cap5, rfl, hk2, hb2⟩; have hbb := X.grow (w := w) (by repeat (first | exact hbb | refine Below.drew ?_ | refine Below.setCell ?_ (by (try simp); try omega) _ | refine Below.alloc ?_ (by (try simp); try omega) _)) hb2; have hz2 := hb2.size; simp only [World.setCell, Array.size_modify] at hz2; have hp := (hp.far (by simp; omega) _).kept hb2; have hr := (hr.far (by simp) _).kept hb2; have ho : Blk w2 (w.heap.size + 1 + 1) 46 #[.string t, .slice A4 p.length cap4, .slice none 0 0, .int .i64 0, .string ⟨#[]⟩, .int .i64 0, .int .i64 0, .slice none 0 0, .int .i64 0] := (ho.set_ 1 _).kept hb2; obtain ⟨p0, p1, p2, p3, p4, p5, p6, p7, p8⟩ := Blk.c9 hp; obtain ⟨o0, o1, o2, o3, o4, o5, o6, o7, o8⟩ := Blk.c9 ho; have of := ho.fr)
    | (go_at_call 16; refine (hC1 _ (by repeat (first | exact hbb | refine Below.drew ?_ | refine Below.setCell ?_ (by (try simp); try omega) _ | refine Below.alloc ?_ (by (try simp); try omega) _))).mono ?_; rintro e w1 ⟨A4, cap4, rfl, hk1, hb1⟩; have g1 := hb1; have hbb := X.grow (w := w) (by repeat (first | exact hbb | refine Below.drew ?_ | refine Below.setCell ?_ (by (try simp); try omega) _ | refine Below.alloc ?_ (by (try simp); try omega) _)) hb1; have hz1 := hb1.size; simp at hz1; have hp : Blk w1 w.heap.size 63 #[.string t, .slice A1 p.length cap1, .slice A2 q.length cap2, .int .i64 k, .string u, .int .i64 n, .int .i64 y, .slice A3 r.length cap3, .int .i64 l] := (((Blk.new _ _ _).alloc _).alloc _).kept hb1; have hr : Blk w1 (w.heap.size + 1) 46 #[.string ⟨#[]⟩, .slice none 0 0, .slice none 0 0, .int .i64 0, .string ⟨#[]⟩, .int .i64 0, .int .i64 0, .slice none 0 0, .int .i64 0] := ((Blk.new' (by simp)).alloc _).kept hb1; have ho : Blk w1 (w.heap.size + 1 + 1) 46 #[.string t, .slice none 0 0, .slice none 0 0, .int .i64 0, .string ⟨#[]⟩, .int .i64 0, .int .i64 0, .slice none 0 0, .int .i64 0] := (Blk.new' (by simp)).kept hb1; obtain ⟨p0, p1, p2, p3, p4, p5, p6, p7, p8⟩ := Blk.c9 hp; obtain ⟨o0, o1, o2, o3, o4, o5, o6, o7, o8⟩ := Blk.c9 ho; have of := ho.fr))
  have q1 : ((w.heap.size + 1) + 1) + 1 ≤ w1.heap.size := by omega
  have n1 : SBuf w1 (w.heap.size + 1 + 1 + 1) (.slice A4 p.length cap4) p := hk1.mono (by simp)
  have n2 := (n1.hi (C := w.heap.size + 1 + 1 + 1) (Hi.set_ (Hi.refl _ _) (p := ⟨w.heap.size + 1 + 1, 1, none⟩) (by simp) (.slice A4 p.length cap4)) (Nat.le_refl _)).kept hb2
  have n3 := (n2.hi (C := w.heap.size + 1 + 1 + 1) (Hi.set_ (Hi.refl _ _) (p := ⟨w.heap.size + 1 + 1, 2, none⟩) (by simp) (.slice A5 q.length cap5)) (Nat.le_refl _)).kept hb3
  have m2 : SBuf w2 w1.heap.size (.slice A5 q.length cap5) q := hk2.mono (by simp [World.setCell])
  have m3 := (m2.hi (C := w.heap.size + 1 + 1 + 1) (Hi.set_ (Hi.refl _ _) (p := ⟨w.heap.size + 1 + 1, 2, none⟩) (by simp) (.slice A5 q.length cap5)) q1).kept hb3
  have l3 : X.Ok w3 w2.heap.size r (.slice A6 r.length cap6) F6 := hk3.mono (by simp [World.setCell])
  have hap := apart3 (fun x hx => (n1.ltL x hx).2) (fun x hx => m2.ltL x hx) (fun x hx => (l3.lt x hx).1) hz2 hn3
  refine bodyPost_ret (v := .agg #[.string t, .slice A4 p.length cap4, .slice A5 q.length cap5, .int .i64 k, .string u, .int .i64 n, .int .i64 y, .slice A6 r.length cap6, .int .i64 l]) (by simp [results, Try.results31, go_sem, r0, r1, r2, r3, r4, r5, r6, r7, r8]) rfl
    ⟨A4, cap4, A5, cap5, A6, cap6, _, rfl, ⟨F6, (n3.hi (C := w.heap.size + 1 + 1 + 1) (by repeat (first | with_reducible exact Hi.refl _ _ | with_reducible refine Hi.set_ ?_ (by simp) _)) (Nat.le_refl _)).mono (by omega), (m3.hi (C := w.heap.size + 1 + 1 + 1) (by repeat (first | with_reducible exact Hi.refl _ _ | with_reducible refine Hi.set_ ?_ (by simp) _)) q1).mono (by omega), (Ok.hi l3 (C := w.heap.size + 1 + 1 + 1) (by repeat (first | with_reducible exact Hi.refl _ _ | with_reducible refine Hi.set_ ?_ (by simp) _)) (by omega)).mono (by omega), rfl⟩, hap, ?_⟩
  repeat (with_reducible refine Below.setCell ?_ (by (try simp); try omega) _)
  exact hbb
end Go.Proofs.Ytljblaglfooclaa

namespace Go.Proofs.Ytljblaglfooclaa
open Go.RowKit

theorem toRtF (a : Rt) (s : Value) (P : Nat → Prop) (w : World) (hK : Sr w P s a.f) (hP : ∀ b, P b → b < w.heap.size) (hl : a.f.length ≤ 1099511627776) :
    Calls Try.prog 30 #[.agg #[.string a.t, s, .int .i64 a.l]] w fun e w' => ∃ A cap F, e = .returned (.agg #[.string a.t, .slice A a.f.length cap, .int .i64 a.l]) ∧ iR w' w.heap.size (a, .slice A a.f.length cap) F ∧ F.Nodup ∧ Below w.heap.size w w' :=
  (toRt a s P w hK hP hl).mono fun _ _ ⟨A, cap, he, hk, hb⟩ => ⟨A, cap, _, he, ⟨hk, rfl⟩, blkL_nodup _, hb⟩
theorem ORs.kept {eR : TypeId} {w w' : World} {B : Nat} {r : List Rt} {s : Value} {F : List Nat} (h : ORs eR w B r s F) (hb : Below w.heap.size w w') : ORs eR w' B r s F := h.keep fun b hf => hb.block b (h.lt b hf).2
theorem OPs.kept {eR : TypeId} {w w' : World} {B : Nat} {r : List Pd} {s : Value} {F : List Nat} (h : OPs eR w B r s F) (hb : Below w.heap.size w w') : OPs eR w' B r s F := h.keep fun b hf => hb.block b (h.lt b hf).2
theorem ORs.hi {eR : TypeId} {w w' : World} {B C : Nat} {r : List Rt} {s : Value} {F : List Nat} (h : ORs eR w B r s F) (hh : Hi C w w') (hC : C ≤ B) : ORs eR w' B r s F := h.keep fun b hb => hh b (Nat.le_trans hC (h.lt b hb).1)
theorem OPs.hi {eR : TypeId} {w w' : World} {B C : Nat} {r : List Pd} {s : Value} {F : List Nat} (h : OPs eR w B r s F) (hh : Hi C w w') (hC : C ≤ B) : OPs eR w' B r s F := h.keep fun b hb => hh b (Nat.le_trans hC (h.lt b hb).1)
theorem info_R : (Try.prog.info? 41).map (fun i => (i.zero, i.size, i.bytes)) = some (some (.agg #[.string ⟨#[]⟩, .slice none 0 0, .int .i64 0]), 3, 48) := by kernel_rfl
/-- make([]RecordType, n) -/
def zerosR (n : Nat) : Obj := .cells (madeCells #[.string ⟨#[]⟩, .slice none 0 0, .int .i64 0] (n * 3)) 41
theorem make_R (n : Nat) (hn : n ≤ 1099511627776) (w : World) : (Instr.makeSlice 28 (.int .i64 (n : Int)) (.int .i64 (n : Int))).run Try.prog w = .ok (.slice (some ⟨w.heap.size, 0, none⟩) n n) (w.alloc (zerosR n)) := by
  obtain ⟨i0, hi, hz0, hz1, hz2⟩ := info_parts info_R
  have hr := run_make (P := Try.prog) w 28 41 i0 _ Try.underlying28 hi hz0 .i64 .i64 n n (by omega) (by omega) (by rw [hz2]; omega) (by omega)
  simpa [hz1, zerosR, Value.cells] using hr
def zR : Rt × Value := (⟨⟨#[]⟩, [], 0⟩, .slice none 0 0)
theorem own_zerosR (w : World) (B n : Nat) (hb : B ≤ w.heap.size) (hn : n ≤ maxLen) : (w.alloc (zerosR n)).ownsRow B 41 3 (.slice (some ⟨w.heap.size, 0, none⟩) n n) n ((List.replicate n zR).flatMap cR) := by
  have h := World.ownsRow_lit (base := B) (e := 41) (size := 3) w (madeCells #[.string ⟨#[]⟩, .slice none 0 0, .int .i64 0] (n * 3)) n hb hn (by rw [size_madeCells])
  rwa [made_flat cR_len (by omega) zR #[.string ⟨#[]⟩, .slice none 0 0, .int .i64 0] rfl] at h
set_option maxHeartbeats 4000000 in
theorem toRtS (r : List Rt) (s : Value) (P : Nat → Prop) (w : World) (hK : Rts w P r s) (hP : ∀ b, P b → b < w.heap.size) (hsiz : r.length + sumF Rt.siz r ≤ 1099511627776) :
    Calls Try.prog 15 #[s] w fun e w' => ∃ A cap F, e = .returned (.slice A r.length cap) ∧ ORs 41 w' w.heap.size r (.slice A r.length cap) F ∧ F.Nodup ∧ Below w.heap.size w w' := by
  obtain ⟨A, cap, rfl⟩ := hK.form
  have hmk := make_R r.length (by omega) w
  go_enter Try.func15, Try.ntmps15
  go_wp2_with fail
  go_loopw [4] (fun i wr => ∃ (j : Nat) (L : List (Rt × Value)) (F : List Nat), i = .int .i64 j ∧ wr.ownsRow w.heap.size 41 3 (.slice (some ⟨w.heap.size, 0, none⟩) r.length r.length) r.length ((L ++ List.replicate (r.length - j) zR).flatMap cR) ∧
      L.map Prod.fst = r.take j ∧ OwG iR wr (w.heap.size + 1) L F ∧ F.Nodup ∧ j ≤ r.length ∧ Below w.heap.size w wr)
    (fun i _ => r.length - (intOf i).toNat)
  case atStart => exact ⟨0, [], [], rfl, by simpa using own_zerosR w w.heap.size r.length (Nat.le_refl _) (by unfold maxLen; omega), by simp, rfl, List.nodup_nil, by omega, (Below.refl _ _).alloc (Nat.le_refl _) _⟩
  case round =>
    obtain ⟨j, L, F, rfl, hown, hL, hF, hnd, hj, hb⟩ := hrel
    have hsz := hb.size
    have hlt0 := (hown.lt w.heap.size rfl).2
    clear hmk
    by_cases hlt : j < r.length
    · obtain ⟨b, o, s1, rfl, hPb, hs1, c0, c1, c2⟩ := Rts.at_ (hK.below hb hP) hlt
      obtain ⟨A1, cap1, rfl⟩ := hs1.form
      have h0 := sumF_at Rt.siz r hlt
      have hC := toRtF r[j] _ P wr hs1 (fun b hb => Nat.lt_of_lt_of_le (hP b hb) hsz) (by have : r[j].siz = r[j].t.size + (r[j].f.length + sizS r[j].f) := rfl; omega)
      clear h0
      go_wp2_with (go_at_call 30; refine hC.mono ?_; rintro e w1 ⟨A2, cap2, F1, rfl, hk1, hnd1, hb1⟩; have hown1 := X.ownsRow_below hown hb1 (fun k hk => by cases hk; exact hlt0); obtain ⟨⟨u0, d0⟩, f0⟩ := own_at hown1 (k := j * 3) (by omega); obtain ⟨⟨u1, d1⟩, f1⟩ := own_at hown1 (k := j * 3 + 1) (by omega); obtain ⟨⟨u2, d2⟩, f2⟩ := own_at hown1 (k := j * 3 + 2) (by omega))
      have hLl : L.length = j := by have := congrArg List.length hL; simp at this; omega
      have hrel : (setCs w1 w.heap.size (j * 3) (cR (r[j], Value.slice A2 r[j].f.length cap2))).ownsRow w.heap.size 41 3 (.slice (some ⟨w.heap.size, 0, none⟩) r.length r.length) r.length (((L ++ [(r[j], Value.slice A2 r[j].f.length cap2)]) ++ List.replicate (r.length - (j + 1)) zR).flatMap cR) := by
        have h5 := own_setCs (cR (r[j], Value.slice A2 r[j].f.length cap2)) (j * 3) hown1
        rwa [sets_flat cR_len _ (by simp; omega), fill_next L r.length hlt hLl] at h5
      have hL1 : (L ++ [(r[j], Value.slice A2 r[j].f.length cap2)]).map Prod.fst = r.take (j + 1) := by
        rw [List.map_append, hL, List.take_succ_eq_append_getElem hlt]; rfl
      have hF1 : OwG iR (setCs w1 w.heap.size (j * 3) (cR (r[j], Value.slice A2 r[j].f.length cap2))) (w.heap.size + 1) (L ++ [(r[j], Value.slice A2 r[j].f.length cap2)]) (F ++ F1) := by
        refine OwG.append (OwG.keep iR_law hF fun b hb => ?_) (OwG.one (iR_law.keep (iR_law.mono (by omega) hk1) fun b hb => ?_))
        · have := OwG.lt iR_law hF b hb
          rw [setCs_block (by omega)]
          exact hb1.block b (by omega)
        · have := iR_law.lt hk1 b hb
          exact setCs_block (by omega) _ _ _
      have hnd2 : (F ++ F1).Nodup := List.nodup_append.2 ⟨hnd, hnd1, fun a ha c hc => by have := OwG.lt iR_law hF a ha; have := iR_law.lt hk1 c hc; omega⟩
      have hB1 : Below w.heap.size w (setCs w1 w.heap.size (j * 3) (cR (r[j], Value.slice A2 r[j].f.length cap2))) := setCs_below (Nat.le_refl _) _ _ (hb.trans (hb1.mono hsz))
      refine ⟨⟨j + 1, _, _, by go_num, hrel, hL1, hF1, hnd2, by omega, hB1⟩, ?_⟩
      simp [intOf]; omega
    · obtain rfl : j = r.length := by omega
      have hLl : L.length = r.length := by have := congrArg List.length hL; simp at this; omega
      have hS : ORs 41 wr w.heap.size r (.slice (some ⟨w.heap.size, 0, none⟩) r.length r.length) (w.heap.size :: F) := by
        refine ⟨L, by simpa using hL, F, ?_, OwG.mono iR_law (by omega) hF, rfl⟩
        rw [hLl]
        simpa using hown
      have hnd2 : (w.heap.size :: F).Nodup := List.nodup_cons.2 ⟨fun hm => by have := OwG.lt iR_law hF _ hm; omega, hnd⟩
      clear hown hF hnd
      go_wp2_with fail
      go_ret
      exact ⟨_, _, _, rfl, hS, hnd2, hb⟩
theorem info_P : (Try.prog.info? 46).map (fun i => (i.zero, i.size, i.bytes)) = some (some (.agg #[.string ⟨#[]⟩, .slice none 0 0, .slice none 0 0, .int .i64 0, .string ⟨#[]⟩, .int .i64 0, .int .i64 0, .slice none 0 0, .int .i64 0]), 9, 136) := by kernel_rfl
/-- make([]Procedure, n) -/
def zerosP (n : Nat) : Obj := .cells (madeCells #[.string ⟨#[]⟩, .slice none 0 0, .slice none 0 0, .int .i64 0, .string ⟨#[]⟩, .int .i64 0, .int .i64 0, .slice none 0 0, .int .i64 0] (n * 9)) 46
theorem make_P (n : Nat) (hn : n ≤ 1099511627776) (w : World) : (Instr.makeSlice 29 (.int .i64 (n : Int)) (.int .i64 (n : Int))).run Try.prog w = .ok (.slice (some ⟨w.heap.size, 0, none⟩) n n) (w.alloc (zerosP n)) := by
  obtain ⟨i0, hi, hz0, hz1, hz2⟩ := info_parts info_P
  have hr := run_make (P := Try.prog) w 29 46 i0 _ Try.underlying29 hi hz0 .i64 .i64 n n (by omega) (by omega) (by rw [hz2]; omega) (by omega)
  simpa [hz1, zerosP, Value.cells] using hr
def zP : Pd × Value × Value × Value := (⟨⟨#[]⟩, [], [], X.zero, 0⟩, .slice none 0 0, .slice none 0 0, .slice none 0 0)
theorem own_zerosP (w : World) (B n : Nat) (hb : B ≤ w.heap.size) (hn : n ≤ maxLen) : (w.alloc (zerosP n)).ownsRow B 46 9 (.slice (some ⟨w.heap.size, 0, none⟩) n n) n ((List.replicate n zP).flatMap cP) := by
  have h := World.ownsRow_lit (base := B) (e := 46) (size := 9) w (madeCells #[.string ⟨#[]⟩, .slice none 0 0, .slice none 0 0, .int .i64 0, .string ⟨#[]⟩, .int .i64 0, .int .i64 0, .slice none 0 0, .int .i64 0] (n * 9)) n hb hn (by rw [size_madeCells])
  rwa [made_flat cP_len (by omega) zP #[.string ⟨#[]⟩, .slice none 0 0, .slice none 0 0, .int .i64 0, .string ⟨#[]⟩, .int .i64 0, .int .i64 0, .slice none 0 0, .int .i64 0] rfl] at h
set_option maxHeartbeats 4000000 in
theorem toPdS (r : List Pd) (s : Value) (P : Nat → Prop) (w : World) (hK : Pds X.Kd w P r s) (hP : ∀ b, P b → b < w.heap.size) (hsiz : r.length + sumF Pd.siz r ≤ 1099511627776) :
    Calls Try.prog 17 #[s] w fun e w' => ∃ A cap F, e = .returned (.slice A r.length cap) ∧ OPs 46 w' w.heap.size r (.slice A r.length cap) F ∧ F.Nodup ∧ Below w.heap.size w w' := by
  obtain ⟨A, cap, rfl⟩ := hK.form
  have hmk := make_P r.length (by omega) w
  go_enter Try.func17, Try.ntmps17
  go_wp2_with fail
  go_loopw [4] (fun i wr => ∃ (j : Nat) (L : List (Pd × Value × Value × Value)) (F : List Nat), i = .int .i64 j ∧ wr.ownsRow w.heap.size 46 9 (.slice (some ⟨w.heap.size, 0, none⟩) r.length r.length) r.length ((L ++ List.replicate (r.length - j) zP).flatMap cP) ∧
      L.map Prod.fst = r.take j ∧ OwG iP wr (w.heap.size + 1) L F ∧ F.Nodup ∧ j ≤ r.length ∧ Below w.heap.size w wr)
    (fun i _ => r.length - (intOf i).toNat)
  case atStart => exact ⟨0, [], [], rfl, by simpa using own_zerosP w w.heap.size r.length (Nat.le_refl _) (by unfold maxLen; omega), by simp, rfl, List.nodup_nil, by omega, (Below.refl _ _).alloc (Nat.le_refl _) _⟩
  case round =>
    obtain ⟨j, L, F, rfl, hown, hL, hF, hnd, hj, hb⟩ := hrel
    have hsz := hb.size
    have hlt0 := (hown.lt w.heap.size rfl).2
    clear hmk
    by_cases hlt : j < r.length
    · obtain ⟨b, o, s1, s2, s3, rfl, hPb, hs1, hs2, hs3, c0, c1, c2, c3, c4, c5, c6, c7, c8⟩ := Pds.at_ (hK.below hb hP) hlt
      obtain ⟨A1, cap1, rfl⟩ := hs1.form
      obtain ⟨A2, cap2, rfl⟩ := hs2.form
      obtain ⟨A3, cap3, rfl⟩ := hs3.form
      have h0 := sumF_at Pd.siz r hlt
      have hC := toPd r[j] _ _ _ P wr hs1 hs2 hs3 (fun b hb => Nat.lt_of_lt_of_le (hP b hb) hsz) (by omega)
      clear h0
      go_wp2_with (go_at_call 31; refine hC.mono ?_; rintro e w1 ⟨A4, cap4, A5, cap5, A6, cap6, F1, rfl, hk1, hnd1, hb1⟩; have hown1 := X.ownsRow_below hown hb1 (fun k hk => by cases hk; exact hlt0); obtain ⟨⟨u0, d0⟩, f0⟩ := own_at hown1 (k := j * 9) (by omega); obtain ⟨⟨u1, d1⟩, f1⟩ := own_at hown1 (k := j * 9 + 1) (by omega); obtain ⟨⟨u2, d2⟩, f2⟩ := own_at hown1 (k := j * 9 + 2) (by omega); obtain ⟨⟨u3, d3⟩, f3⟩ := own_at hown1 (k := j * 9 + 3) (by omega); obtain ⟨⟨u4, d4⟩, f4⟩ := own_at hown1 (k := j * 9 + 4) (by omega); obtain ⟨⟨u5, d5⟩, f5⟩ := own_at hown1 (k := j * 9 + 5) (by omega); obtain ⟨⟨u6, d6⟩, f6⟩ := own_at hown1 (k := j * 9 + 6) (by omega); obtain ⟨⟨u7, d7⟩, f7⟩ := own_at hown1 (k := j * 9 + 7) (by omega); obtain ⟨⟨u8, d8⟩, f8⟩ := own_at hown1 (k := j * 9 + 8) (by omega))
      have hLl : L.length = j := by have := congrArg List.length hL; simp at this; omega
      have hrel : (setCs w1 w.heap.size (j * 9) (cP (r[j], Value.slice A4 r[j].p.length cap4, Value.slice A5 r[j].q.length cap5, Value.slice A6 r[j].x.r.length cap6))).ownsRow w.heap.size 46 9 (.slice (some ⟨w.heap.size, 0, none⟩) r.length r.length) r.length (((L ++ [(r[j], Value.slice A4 r[j].p.length cap4, Value.slice A5 r[j].q.length cap5, Value.slice A6 r[j].x.r.length cap6)]) ++ List.replicate (r.length - (j + 1)) zP).flatMap cP) := by
        have h5 := own_setCs (cP (r[j], Value.slice A4 r[j].p.length cap4, Value.slice A5 r[j].q.length cap5, Value.slice A6 r[j].x.r.length cap6)) (j * 9) hown1
        rwa [sets_flat cP_len _ (by simp; omega), fill_next L r.length hlt hLl] at h5
      have hL1 : (L ++ [(r[j], Value.slice A4 r[j].p.length cap4, Value.slice A5 r[j].q.length cap5, Value.slice A6 r[j].x.r.length cap6)]).map Prod.fst = r.take (j + 1) := by
        rw [List.map_append, hL, List.take_succ_eq_append_getElem hlt]; rfl
      have hF1 : OwG iP (setCs w1 w.heap.size (j * 9) (cP (r[j], Value.slice A4 r[j].p.length cap4, Value.slice A5 r[j].q.length cap5, Value.slice A6 r[j].x.r.length cap6))) (w.heap.size + 1) (L ++ [(r[j], Value.slice A4 r[j].p.length cap4, Value.slice A5 r[j].q.length cap5, Value.slice A6 r[j].x.r.length cap6)]) (F ++ F1) := by
        refine OwG.append (OwG.keep iP_law hF fun b hb => ?_) (OwG.one (iP_law.keep (iP_law.mono (by omega) hk1) fun b hb => ?_))
        · have := OwG.lt iP_law hF b hb
          rw [setCs_block (by omega)]
          exact hb1.block b (by omega)
        · have := iP_law.lt hk1 b hb
          exact setCs_block (by omega) _ _ _
      have hnd2 : (F ++ F1).Nodup := List.nodup_append.2 ⟨hnd, hnd1, fun a ha c hc => by have := OwG.lt iP_law hF a ha; have := iP_law.lt hk1 c hc; omega⟩
      have hB1 : Below w.heap.size w (setCs w1 w.heap.size (j * 9) (cP (r[j], Value.slice A4 r[j].p.length cap4, Value.slice A5 r[j].q.length cap5, Value.slice A6 r[j].x.r.length cap6))) := setCs_below (Nat.le_refl _) _ _ (hb.trans (hb1.mono hsz))
      refine ⟨⟨j + 1, _, _, by go_num, hrel, hL1, hF1, hnd2, by omega, hB1⟩, ?_⟩
      simp [intOf]; omega
    · obtain rfl : j = r.length := by omega
      have hLl : L.length = r.length := by have := congrArg List.length hL; simp at this; omega
      have hS : OPs 46 wr w.heap.size r (.slice (some ⟨w.heap.size, 0, none⟩) r.length r.length) (w.heap.size :: F) := by
        refine ⟨L, by simpa using hL, F, ?_, OwG.mono iP_law (by omega) hF, rfl⟩
        rw [hLl]
        simpa using hown
      have hnd2 : (w.heap.size :: F).Nodup := List.nodup_cons.2 ⟨fun hm => by have := OwG.lt iP_law hF _ hm; omega, hnd⟩
      clear hown hF hnd
      go_wp2_with fail
      go_ret
      exact ⟨_, _, _, rfl, hS, hnd2, hb⟩
set_option maxHeartbeats 4000000 in
theorem toUn (u : Un) (s1 s2 s3 : Value) (P : Nat → Prop) (w : World) (hK : Urd X.Kd w P u s1 s2 s3) (hP : ∀ b, P b → b < w.heap.size) (hl : u.siz ≤ 1099511627776) :
    Calls Try.prog 6 #[.agg #[s1, s2, s3]] w fun e w' => ∃ A1 c1 A2 c2 A3 c3 F, e = .returned (.agg #[.slice A1 u.r.length c1, .slice A2 u.g.length c2, .slice A3 u.p.length c3]) ∧
      OUn 41 46 w' w.heap.size u (.slice A1 u.r.length c1) (.slice A2 u.g.length c2) (.slice A3 u.p.length c3) F ∧ F.Nodup ∧ Below w.heap.size w w' := by
  obtain ⟨hK1, hK2, hK3⟩ := hK
  have hz0 : u.siz = (u.r.length + sumF Rt.siz u.r) + ((u.g.length + sizS u.g) + (u.p.length + sumF Pd.siz u.p)) := rfl
  have hC1 := fun W (hW : Below w.heap.size w W) => toRtS u.r s1 P W (hK1.below hW hP) (fun b hb => Nat.lt_of_lt_of_le (hP b hb) hW.size) (by omega)
  have hC2 := toS_at hK2 hP (by omega)
  have hC3 := fun W (hW : Below w.heap.size w W) => toPdS u.p s3 P W (hK3.below hW hP) (fun b hb => Nat.lt_of_lt_of_le (hP b hb) hW.size) (by omega)
  obtain ⟨A1, cap1, rfl⟩ := hK1.form
  obtain ⟨A2, cap2, rfl⟩ := hK2.form
  obtain ⟨A3, cap3, rfl⟩ := hK3.form
  obtain ⟨r, g, p⟩ := u
  clear hK1 hK2 hK3 hl hz0
  replace hC1 : ∀ W : World, Below w.heap.size w W → Calls Try.prog 15 #[.slice A1 r.length cap1] W fun e w' => ∃ A cap F, e = .returned (.slice A r.length cap) ∧ ORs 41 w' W.heap.size r (.slice A r.length cap) F ∧ F.Nodup ∧ Below W.heap.size W w' := hC1
  replace hC2 : ∀ W : World, Below w.heap.size w W → Calls Try.prog 16 #[.slice A2 g.length cap2] W fun e w' => ∃ A cap, e = .returned (.slice A g.length cap) ∧ SBuf w' W.heap.size (.slice A g.length cap) g ∧ Below W.heap.size W w' := hC2
  replace hC3 : ∀ W : World, Below w.heap.size w W → Calls Try.prog 17 #[.slice A3 p.length cap3] W fun e w' => ∃ A cap F, e = .returned (.slice A p.length cap) ∧ OPs 46 w' W.heap.size p (.slice A p.length cap) F ∧ F.Nodup ∧ Below W.heap.size W w' := hC3
  show Calls Try.prog 6 #[.agg #[.slice A1 r.length cap1, .slice A2 g.length cap2, .slice A3 p.length cap3]] w fun e w' => ∃ A1 c1 A2 c2 A3 c3 F, e = .returned (.agg #[.slice A1 r.length c1, .slice A2 g.length c2, .slice A3 p.length c3]) ∧
      OUn 41 46 w' w.heap.size ⟨r, g, p⟩ (.slice A1 r.length c1) (.slice A2 g.length c2) (.slice A3 p.length c3) F ∧ F.Nodup ∧ Below w.heap.size w w'
  have hbb : Below w.heap.size w w := Below.refl _ _
  have hzz := hbb.size
  go_enter Try.func6, Try.ntmps6
  go_wp2_with (first
    | (go_at_call 17; refine (hC3 _ (by repeat (first | exact hbb | refine Below.drew ?_ | refine Below.setCell ?_ (by (try simp); try omega) _ | refine Below.alloc ?_ (by (try simp); try omega) _))).mono ?_; rintro e w3 ⟨A6, cap6, F6, rfl, hk3, hn3, hb3⟩; have hbb := X.grow (w := w) (by repeat (first | exact hbb | refine Below.drew ?_ | refine Below.setCell ?_ (by (try simp); try omega) _ | refine Below.alloc ?_ (by (try simp); try omega) _)) hb3; have hz3 := hb3.size; simp only [World.setCell, Array.size_modify] at hz3; have hp := (hp.far (by simp; omega) _).kept hb3; have hr := (hr.far (by simp) _).kept hb3; have ho : Blk w3 (w.heap.size + 1 + 1) 31 #[.slice A4 r.length cap4, .slice A5 g.length cap5, .slice none 0 0] := (ho.set_ 1 _).kept hb3; obtain ⟨p0, p1, p2⟩ := Blk.c3 hp; obtain ⟨o0, o1, o2⟩ := Blk.c3 ho; obtain ⟨r0, r1, r2⟩ := Blk.c3 hr; have of := ho.fr; have rf := hr.fr)
    | (go_at_call 16; refine (hC2 _ (by repeat (first | exact hbb | refine Below.drew ?_ | refine Below.setCell ?_ (by (try simp); try omega) _ | refine Below.alloc ?_ (by (try simp); try omega) _))).mono ?_; rintro e w2 ⟨A5, cap5, rfl, hk2, hb2⟩; have hbb := X.grow (w := w) (by repeat (first | exact hbb | refine Below.drew ?_ | refine Below.setCell ?_ (by (try simp); try omega) _ | refine Below.alloc ?_ (by (try simp); try omega) _)) hb2; have hz2 := hb2.size; simp only [World.setCell, Array.size_modify] at hz2; have hp := (hp.far (by simp; omega) _).kept hb2; have hr := (hr.far (by simp) _).kept hb2; have ho : Blk w2 (w.heap.size + 1 + 1) 31 #[.slice A4 r.length cap4, .slice none 0 0, .slice none 0 0] := (ho.set_ 0 _).kept hb2; obtain ⟨p0, p1, p2⟩ := Blk.c3 hp; obtain ⟨o0, o1, o2⟩ := Blk.c3 ho; have of := ho.fr)
    | (go_at_call 15; refine (hC1 _ (by repeat (first | exact hbb | refine Below.drew ?_ | refine Below.setCell ?_ (by (try simp); try omega) _ | refine Below.alloc ?_ (by (try simp); try omega) _))).mono ?_; rintro e w1 ⟨A4, cap4, F4, rfl, hk1, hn1, hb1⟩; have hbb := X.grow (w := w) (by repeat (first | exact hbb | refine Below.drew ?_ | refine Below.setCell ?_ (by (try simp); try omega) _ | refine Below.alloc ?_ (by (try simp); try omega) _)) hb1; have hz1 := hb1.size; simp at hz1; have hp : Blk w1 w.heap.size 26 #[.slice A1 r.length cap1, .slice A2 g.length cap2, .slice A3 p.length cap3] := (((Blk.new _ _ _).alloc _).alloc _).kept hb1; have hr : Blk w1 (w.heap.size + 1) 31 #[.slice none 0 0, .slice none 0 0, .slice none 0 0] := ((Blk.new' (by simp)).alloc _).kept hb1; have ho : Blk w1 (w.heap.size + 1 + 1) 31 #[.slice none 0 0, .slice none 0 0, .slice none 0 0] := (Blk.new' (by simp)).kept hb1; obtain ⟨p0, p1, p2⟩ := Blk.c3 hp; obtain ⟨o0, o1, o2⟩ := Blk.c3 ho; have of := ho.fr))
  have q1 : ((w.heap.size + 1) + 1) + 1 ≤ w1.heap.size := by omega
  have n1 : ORs 41 w1 (w.heap.size + 1 + 1 + 1) r (.slice A4 r.length cap4) F4 := hk1.mono (by simp)
  have n2 := (n1.hi (C := w.heap.size + 1 + 1 + 1) (Hi.set_ (Hi.refl _ _) (p := ⟨w.heap.size + 1 + 1, 0, none⟩) (by simp) (.slice A4 r.length cap4)) (Nat.le_refl _)).kept hb2
  have n3 := (n2.hi (C := w.heap.size + 1 + 1 + 1) (Hi.set_ (Hi.refl _ _) (p := ⟨w.heap.size + 1 + 1, 1, none⟩) (by simp) (.slice A5 g.length cap5)) (Nat.le_refl _)).kept hb3
  have m2 : SBuf w2 w1.heap.size (.slice A5 g.length cap5) g := hk2.mono (by simp [World.setCell])
  have m3 := (m2.hi (C := w.heap.size + 1 + 1 + 1) (Hi.set_ (Hi.refl _ _) (p := ⟨w.heap.size + 1 + 1, 1, none⟩) (by simp) (.slice A5 g.length cap5)) q1).kept hb3
  have l3 : OPs 46 w3 w2.heap.size p (.slice A6 p.length cap6) F6 := hk3.mono (by simp [World.setCell])
  have hap : (F4 ++ (X.blkL (.slice A5 g.length cap5) ++ F6)).Nodup := List.nodup_append.2 ⟨hn1, List.nodup_append.2 ⟨blkL_nodup _, hn3, fun x hx y hy => by have := m2.ltL x hx; have := l3.lt y hy; omega⟩, fun x hx y hy => by
    have := n1.lt x hx
    rcases List.mem_append.1 hy with hy | hy
    · have := m2.ltL y hy; omega
    · have := l3.lt y hy; omega⟩
  refine bodyPost_ret (v := .agg #[.slice A4 r.length cap4, .slice A5 g.length cap5, .slice A6 p.length cap6]) (by simp [results, Try.results6, go_sem, r0, r1, r2]) rfl
    ⟨A4, cap4, A5, cap5, A6, cap6, _, rfl, ⟨F4, F6, (n3.hi (C := w.heap.size + 1 + 1 + 1) (by repeat (first | with_reducible exact Hi.refl _ _ | with_reducible refine Hi.set_ ?_ (by simp) _)) (Nat.le_refl _)).mono (by omega), (m3.hi (C := w.heap.size + 1 + 1 + 1) (by repeat (first | with_reducible exact Hi.refl _ _ | with_reducible refine Hi.set_ ?_ (by simp) _)) q1).mono (by omega), (l3.hi (C := w.heap.size + 1 + 1 + 1) (by repeat (first | with_reducible exact Hi.refl _ _ | with_reducible refine Hi.set_ ?_ (by simp) _)) (by omega)).mono (by omega), rfl⟩, hap, ?_⟩
  repeat (with_reducible refine Below.setCell ?_ (by (try simp); try omega) _)
  exact hbb
end Go.Proofs.Ytljblaglfooclaa
