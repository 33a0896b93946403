/- Proved here: the law's copies of record types, procedures and units are the call's own. Condition: the lists fit. -/
import Derived.Test.YtljblaglfooclaaDoorUg
import Derived.Test.YtljblaglfooclaaDoorUz
namespace Go.Proofs.YtljblaglfooclaaDoor
open Go.RowKit

theorem toS_at {l : List ByteArray} {s : Value} {P : Nat → Prop} {w : World} (hK : Sr w P s l) (hP : ∀ b, P b → b < w.heap.size) (hl : l.length ≤ 1099511627776) (W : World) (hW : Below w.heap.size w W) :
    Calls Tryd.prog 16 #[s] W fun e w' => ∃ A cap, e = .returned (.slice A l.length cap) ∧ SBuf w' W.heap.size (.slice A l.length cap) l ∧ Below W.heap.size W w' :=
  toS l s P W (hK.below hW hP) (fun b hb => Nat.lt_of_lt_of_le (hP b hb) hW.size) hl
/-- All blocks from B on have stayed. -/
def Hi (B : Nat) (w w' : World) : Prop := ∀ b, B ≤ b → w'.heap[b]? = w.heap[b]?
theorem Hi.refl (B : Nat) (w : World) : Hi B w w := fun _ _ => rfl
theorem Hi.set_ {B : Nat} {w w' : World} (h : Hi B w w') {p : Addr} (hp : p.block < B) (u : Value) : Hi B w (w'.setCell p u) := fun b hb => (heap_setCell_other _ _ _ _ (by omega)).trans (h b hb)
theorem SBuf.hi {w w' : World} {B C : Nat} {s : Value} {l : List ByteArray} (h : SBuf w B s l) (hh : Hi C w w') (hC : C ≤ B) : SBuf w' B s l := h.keepL fun b hb => hh b (Nat.le_trans hC (h.ltL b hb).1)
theorem Ok.hi {w w' : World} {B C : Nat} {r : List X} {s : Value} {F : List Nat} (h : X.Ok w B r s F) (hh : Hi C w w') (hC : C ≤ B) : X.Ok w' B r s F := h.keep fun b hb => hh b (Nat.le_trans hC (h.lt b hb).1)
theorem blkL_nodup (s : Value) : (X.blkL s).Nodup := by
  unfold X.blkL
  cases s.ownBlock <;> simp
theorem apart3 {s1 s2 : Value} {F3 : List Nat} {b c : Nat} (h1 : ∀ x ∈ X.blkL s1, x < b) (h2 : ∀ x ∈ X.blkL s2, b ≤ x ∧ x < c) (h3 : ∀ x ∈ F3, c ≤ x) (hbc : b ≤ c) (hn : F3.Nodup) : (X.blkL s1 ++ (X.blkL s2 ++ F3)).Nodup :=
  List.nodup_append.2 ⟨blkL_nodup s1, List.nodup_append.2 ⟨blkL_nodup s2, hn, fun x hx y hy => by have := h2 x hx; have := h3 y hy; omega⟩, fun x hx y hy => by
    have := h1 x hx
    rcases List.mem_append.1 hy with hy | hy
    · have := h2 y hy; omega
    · have := h3 y hy; omega⟩
theorem Blk.fr {w : World} {g : Nat} {t : TypeId} {cs : Array Value} (h : Blk w g t cs) : ∀ i, w.frozen? ⟨g, i, none⟩ = false := h.frozen
set_option maxHeartbeats 2000000 in
theorem toRt (a : Rt) (s : Value) (P : Nat → Prop) (w : World) (hK : Sr w P s a.f) (hP : ∀ b, P b → b < w.heap.size) (hl : a.f.length ≤ 1099511627776) :
    Calls Tryd.prog 31 #[.agg #[.string a.t, s, .int .i64 a.l]] w fun e w' => ∃ A cap, e = .returned (.agg #[.string a.t, .slice A a.f.length cap, .int .i64 a.l]) ∧ SBuf w' w.heap.size (.slice A a.f.length cap) a.f ∧ Below w.heap.size w w' := by
  have hC := toS_at hK hP hl
  obtain ⟨A, cap, rfl⟩ := hK.form
  obtain ⟨t, f, l⟩ := a
  replace hC : ∀ W : World, Below w.heap.size w W → Calls Tryd.prog 16 #[.slice A f.length cap] W fun e w' => ∃ A cap, e = .returned (.slice A f.length cap) ∧ SBuf w' W.heap.size (.slice A f.length cap) f ∧ Below W.heap.size W w' := hC
  clear hK hl
  show Calls Tryd.prog 31 #[.agg #[.string t, .slice A f.length cap, .int .i64 l]] w fun e w' => ∃ A cap, e = .returned (.agg #[.string t, .slice A f.length cap, .int .i64 l]) ∧ SBuf w' w.heap.size (.slice A f.length cap) f ∧ Below w.heap.size w w'
  go_enter Tryd.func31, Tryd.ntmps31
  go_wp2_with (go_at_call 16; refine (hC _ (by repeat (first | exact Below.refl _ _ | refine Below.drew ?_ | refine Below.setCell ?_ (by (try simp); try omega) _ | refine Below.alloc ?_ (by (try simp); try omega) _))).mono ?_; rintro e w1 ⟨A2, cap2, rfl, hk1, hb1⟩; obtain ⟨hbc, hbf⟩ := bcell hb1)
  have hz := hb1.size
  simp at hz
  refine bodyPost_ret (v := .agg #[.string t, .slice A2 f.length cap2, .int .i64 l]) (by simp [results, Tryd.results31, go_sem, hbc]) rfl ⟨A2, cap2, rfl, ?_, ?_⟩
  · exact SBuf.mono (hk1.hi (C := w.heap.size + 1 + 1 + 1) (by repeat (first | with_reducible exact Hi.refl _ _ | with_reducible refine Hi.set_ ?_ (by simp) _)) (by simp)) (by simp; omega)
  · repeat (with_reducible refine Below.setCell ?_ (by (try simp); try omega) _)
    refine Below.trans ?_ (hb1.mono (by simp; try omega))
    repeat (first | exact Below.refl _ _ | refine Below.drew ?_ | refine Below.setCell ?_ (by (try simp); try omega) _ | refine Below.alloc ?_ (by (try simp); try omega) _)
set_option maxHeartbeats 4000000 in
theorem toPd (a : Pd) (s1 s2 s3 : Value) (P : Nat → Prop) (w : World) (hK1 : Sr w P s1 a.p) (hK2 : Sr w P s2 a.q) (hK3 : X.Kd w P a.x.r s3) (hP : ∀ b, P b → b < w.heap.size) (hl : a.siz ≤ 1099511627776) :
    Calls Tryd.prog 32 #[.agg #[.string a.t, s1, s2, .int .i64 a.x.k, .string a.x.t, .int .i64 a.x.n, .int .i64 a.x.l, s3, .int .i64 a.l]] w fun e w' => ∃ A1 c1 A2 c2 A3 c3 F,
      e = .returned (.agg #[.string a.t, .slice A1 a.p.length c1, .slice A2 a.q.length c2, .int .i64 a.x.k, .string a.x.t, .int .i64 a.x.n, .int .i64 a.x.l, .slice A3 a.x.r.length c3, .int .i64 a.l]) ∧
      iP w' w.heap.size (a, .slice A1 a.p.length c1, .slice A2 a.q.length c2, .slice A3 a.x.r.length c3) F ∧ F.Nodup ∧ Below w.heap.size w w' := by
  have hz0 : a.siz = a.t.size + ((a.p.length + sizS a.p) + ((a.q.length + sizS a.q) + X.siz a.x)) := rfl
  have hC1 := toS_at hK1 hP (by omega)
  have hC2 := toS_at hK2 hP (by omega)
  have hC3 : ∀ W : World, Below w.heap.size w W → Calls Tryd.prog 45 #[X.val a.x s3] W fun e w' => ∃ A cap F, e = .returned (X.val a.x (.slice A a.x.r.length cap)) ∧ X.Ok w' W.heap.size a.x.r (.slice A a.x.r.length cap) F ∧ F.Nodup ∧ Below W.heap.size W w' := fun W hW =>
    (X.toX a.x s3 P W (hK3.below hW hP).rd (fun b hb => Nat.lt_of_lt_of_le (hP b hb) hW.size) (by omega)).mono fun e w' ⟨s', F, he, hk, hn, hb⟩ => by
      obtain ⟨A, cap, rfl⟩ := hk.form
      exact ⟨A, cap, F, he, hk, hn, hb⟩
  obtain ⟨A1, cap1, rfl⟩ := hK1.form
  obtain ⟨A2, cap2, rfl⟩ := hK2.form
  obtain ⟨A3, cap3, rfl⟩ := hK3.form
  obtain ⟨t, p, q, ⟨k, u, n, y, r⟩, l⟩ := a
  clear hK1 hK2 hK3 hl hz0
  replace hC1 : ∀ W : World, Below w.heap.size w W → Calls Tryd.prog 16 #[.slice A1 p.length cap1] W fun e w' => ∃ A cap, e = .returned (.slice A p.length cap) ∧ SBuf w' W.heap.size (.slice A p.length cap) p ∧ Below W.heap.size W w' := hC1
  replace hC2 : ∀ W : World, Below w.heap.size w W → Calls Tryd.prog 16 #[.slice A2 q.length cap2] W fun e w' => ∃ A cap, e = .returned (.slice A q.length cap) ∧ SBuf w' W.heap.size (.slice A q.length cap) q ∧ Below W.heap.size W w' := hC2
  replace hC3 : ∀ W : World, Below w.heap.size w W → Calls Tryd.prog 45 #[.agg #[.int .i64 k, .string u, .int .i64 n, .int .i64 y, .slice A3 r.length cap3]] W fun e w' => ∃ A cap F, e = .returned (.agg #[.int .i64 k, .string u, .int .i64 n, .int .i64 y, .slice A r.length cap]) ∧ X.Ok w' W.heap.size r (.slice A r.length cap) F ∧ F.Nodup ∧ Below W.heap.size W w' := hC3
  show Calls Tryd.prog 32 #[.agg #[.string t, .slice A1 p.length cap1, .slice A2 q.length cap2, .int .i64 k, .string u, .int .i64 n, .int .i64 y, .slice A3 r.length cap3, .int .i64 l]] w fun e w' => ∃ A1 c1 A2 c2 A3 c3 F,
      e = .returned (.agg #[.string t, .slice A1 p.length c1, .slice A2 q.length c2, .int .i64 k, .string u, .int .i64 n, .int .i64 y, .slice A3 r.length c3, .int .i64 l]) ∧
      iP w' w.heap.size (⟨t, p, q, .mk k u n y r, l⟩, .slice A1 p.length c1, .slice A2 q.length c2, .slice A3 r.length c3) F ∧ F.Nodup ∧ Below w.heap.size w w'
  have hbb : Below w.heap.size w w := Below.refl _ _
  have hzz := hbb.size
  go_enter Tryd.func32, Tryd.ntmps32
  go_wp2_with (first
    | (go_at_call 45; refine (hC3 _ (by repeat (first | exact hbb | refine Below.drew ?_ | refine Below.setCell ?_ (by (try simp); try omega) _ | refine Below.alloc ?_ (by (try simp); try omega) _))).mono ?_; rintro e w3 ⟨A6, cap6, F6, rfl, hk3, hn3, hb3⟩; have hbb := X.grow (w := w) (by repeat (first | exact hbb | refine Below.drew ?_ | refine Below.setCell ?_ (by (try simp); try omega) _ | refine Below.alloc ?_ (by (try simp); try omega) _)) hb3; have hz3 := hb3.size; simp only [World.setCell, Array.size_modify] at hz3; have hp := (hp.far (by simp; omega) _).kept hb3; have hr := (hr.far (by simp) _).kept hb3; have ho : Blk w3 (w.heap.size + 1 + 1) 47 #[.string t, .slice A4 p.length cap4, .slice A5 q.length cap5, .int .i64 0, .string ⟨#[]⟩, .int .i64 0, .int .i64 0, .slice none 0 0, .int .i64 0] := (ho.set_ 2 _).kept hb3; obtain ⟨p0, p1, p2, p3, p4, p5, p6, p7, p8⟩ := Blk.c9 hp; obtain ⟨o0, o1, o2, o3, o4, o5, o6, o7, o8⟩ := Blk.c9 ho; obtain ⟨r0, r1, r2, r3, r4, r5, r6, r7, r8⟩ := Blk.c9 hr; have of := ho.fr; have rf := hr.fr)
    | (have hg1 := g1; go_at_call 16; refine (hC2 _ (by repeat (first | exact hbb | refine Below.drew ?_ | refine Below.setCell ?_ (by (try simp); try omega) _ | refine Below.alloc ?_ (by (try simp); try omega) _))).mono ?_; rintro e w2 ⟨A5, cap5, rfl, hk2, hb2⟩; have hbb := X.grow (w := w) (by repeat (first | exact hbb | refine Below.drew ?_ | refine Below.setCell ?_ (by (try simp); try omega) _ | refine Below.alloc ?_ (by (try simp); try omega) _)) hb2; have hz2 := hb2.size; simp only [World.setCell, Array.size_modify] at hz2; have hp := (hp.far (by simp; omega) _).kept hb2; have hr := (hr.far (by simp) _).kept hb2; have ho : Blk w2 (w.heap.size + 1 + 1) 47 #[.string t, .slice A4 p.length cap4, .slice none 0 0, .int .i64 0, .string ⟨#[]⟩, .int .i64 0, .int .i64 0, .slice none 0 0, .int .i64 0] := (ho.set_ 1 _).kept hb2; obtain ⟨p0, p1, p2, p3, p4, p5, p6, p7, p8⟩ := Blk.c9 hp; obtain ⟨o0, o1, o2, o3, o4, o5, o6, o7, o8⟩ := Blk.c9 ho; have of := ho.fr)
    | (go_at_call 16; refine (hC1 _ (by repeat (first | exact hbb | refine Below.drew ?_ | refine Below.setCell ?_ (by (try simp); try omega) _ | refine Below.alloc ?_ (by (try simp); try omega) _))).mono ?_; rintro e w1 ⟨A4, cap4, rfl, hk1, hb1⟩; have g1 := hb1; have hbb := X.grow (w := w) (by repeat (first | exact hbb | refine Below.drew ?_ | refine Below.setCell ?_ (by (try simp); try omega) _ | refine Below.alloc ?_ (by (try simp); try omega) _)) hb1; have hz1 := hb1.size; simp at hz1; have hp : Blk w1 w.heap.size 63 #[.string t, .slice A1 p.length cap1, .slice A2 q.length cap2, .int .i64 k, .string u, .int .i64 n, .int .i64 y, .slice A3 r.length cap3, .int .i64 l] := (((Blk.new _ _ _).alloc _).alloc _).kept hb1; have hr : Blk w1 (w.heap.size + 1) 47 #[.string ⟨#[]⟩, .slice none 0 0, .slice none 0 0, .int .i64 0, .string ⟨#[]⟩, .int .i64 0, .int .i64 0, .slice none 0 0, .int .i64 0] := ((Blk.new' (by simp)).alloc _).kept hb1; have ho : Blk w1 (w.heap.size + 1 + 1) 47 #[.string t, .slice none 0 0, .slice none 0 0, .int .i64 0, .string ⟨#[]⟩, .int .i64 0, .int .i64 0, .slice none 0 0, .int .i64 0] := (Blk.new' (by simp)).kept hb1; obtain ⟨p0, p1, p2, p3, p4, p5, p6, p7, p8⟩ := Blk.c9 hp; obtain ⟨o0, o1, o2, o3, o4, o5, o6, o7, o8⟩ := Blk.c9 ho; have of := ho.fr))
  have q1 : ((w.heap.size + 1) + 1) + 1 ≤ w1.heap.size := by omega
  have n1 : SBuf w1 (w.heap.size + 1 + 1 + 1) (.slice A4 p.length cap4) p := hk1.mono (by simp)
  have n2 := (n1.hi (C := w.heap.size + 1 + 1 + 1) (Hi.set_ (Hi.refl _ _) (p := ⟨w.heap.size + 1 + 1, 1, none⟩) (by simp) (.slice A4 p.length cap4)) (Nat.le_refl _)).kept hb2
  have n3 := (n2.hi (C := w.heap.size + 1 + 1 + 1) (Hi.set_ (Hi.refl _ _) (p := ⟨w.heap.size + 1 + 1, 2, none⟩) (by simp) (.slice A5 q.length cap5)) (Nat.le_refl _)).kept hb3
  have m2 : SBuf w2 w1.heap.size (.slice A5 q.length cap5) q := hk2.mono (by simp [World.setCell])
  have m3 := (m2.hi (C := w.heap.size + 1 + 1 + 1) (Hi.set_ (Hi.refl _ _) (p := ⟨w.heap.size + 1 + 1, 2, none⟩) (by simp) (.slice A5 q.length cap5)) q1).kept hb3
  have l3 : X.Ok w3 w2.heap.size r (.slice A6 r.length cap6) F6 := hk3.mono (by simp [World.setCell])
  have hap := apart3 (fun x hx => (n1.ltL x hx).2) (fun x hx => m2.ltL x hx) (fun x hx => (l3.lt x hx).1) hz2 hn3
  refine bodyPost_ret (v := .agg #[.string t, .slice A4 p.length cap4, .slice A5 q.length cap5, .int .i64 k, .string u, .int .i64 n, .int .i64 y, .slice A6 r.length cap6, .int .i64 l]) (by simp [results, Tryd.results32, go_sem, r0, r1, r2, r3, r4, r5, r6, r7, r8]) rfl
    ⟨A4, cap4, A5, cap5, A6, cap6, _, rfl, ⟨F6, (n3.hi (C := w.heap.size + 1 + 1 + 1) (by repeat (first | with_reducible exact Hi.refl _ _ | with_reducible refine Hi.set_ ?_ (by simp) _)) (Nat.le_refl _)).mono (by omega), (m3.hi (C := w.heap.size + 1 + 1 + 1) (by repeat (first | with_reducible exact Hi.refl _ _ | with_reducible refine Hi.set_ ?_ (by simp) _)) q1).mono (by omega), (Ok.hi l3 (C := w.heap.size + 1 + 1 + 1) (by repeat (first | with_reducible exact Hi.refl _ _ | with_reducible refine Hi.set_ ?_ (by simp) _)) (by omega)).mono (by omega), rfl⟩, hap, ?_⟩
  repeat (with_reducible refine Below.setCell ?_ (by (try simp); try omega) _)
  exact hbb
end Go.Proofs.YtljblaglfooclaaDoor
