/- Proved here: the walk of the law FnExactEraseUnitLines: the call returns true and leaves all older memory as it was. Condition: the arguments are of their types. -/
import Derived.Test.YtljblaglfooclaaUv
import Derived.Test.YtljblaglfooclaaUw
import Derived.Test.YtljblaglfooclaaUm
import Derived.Test.YtljblaglfooclaaUy
import Derived.Test.YtljblaglfooclaaUo
namespace Go.Proofs.Ytljblaglfooclaa.lEraseUnitLines
open Go.RowKit

theorem sumF_map {α : Type} (f : α → Nat) (h : α → α) (hf : ∀ x, f (h x) = f x) (l : List α) : sumF f (l.map h) = sumF f l := by
  unfold sumF
  rw [List.map_map]
  congr 1
  exact List.map_congr_left fun x _ => hf x
theorem sumF_bd {α : Type} (f k : α → Nat) (a b : Nat) (h : ∀ x, f x ≤ a + b * k x) : ∀ l : List α, sumF f l ≤ a * l.length + b * sumF k l
  | [] => by simp [sumF]
  | x :: l => by
    have h1 := h x
    have h2 := sumF_bd f k a b h l
    simp only [sumF, List.map_cons, List.sum_cons, List.length_cons] at *
    rw [Nat.mul_succ, Nat.mul_add]; omega
theorem cn_er (u : Un) : u.er.cn = u.cn := by
  unfold Un.cn Un.er
  rw [sumF_map Rt.cn Rt.er (fun _ => rfl), sumF_map Pd.cn Pd.er (fun a => by show 2 + a.p.length + a.q.length + 4 * X.cnt (X.er a.x) = _; rw [X.er_cnt]; rfl)]
theorem cn_le (u : Un) : u.cn ≤ 6 * u.siz := by
  have h1 := sumF_bd Rt.cn Rt.siz 2 1 (fun a => by have e : a.siz = a.t.size + (a.f.length + sizS a.f) := rfl; have e2 : a.cn = 2 + a.f.length := rfl; omega) u.r
  have h2 := sumF_bd Pd.cn Pd.siz 6 4 (fun a => by have e : a.siz = a.t.size + ((a.p.length + sizS a.p) + ((a.q.length + sizS a.q) + X.siz a.x)) := rfl; have e2 : a.cn = 2 + a.p.length + a.q.length + 4 * X.cnt a.x := rfl; have := X.cnt_le a.x; omega) u.p
  have e : u.siz = (u.r.length + sumF Rt.siz u.r) + ((u.g.length + sizS u.g) + (u.p.length + sumF Pd.siz u.p)) := rfl
  have e2 : u.cn = sumF Rt.cn u.r + u.g.length + sumF Pd.cn u.p := rfl
  omega
theorem wf_er {u : Un} (h : u.Wf) : u.er.Wf := by
  obtain ⟨⟨h1, h2⟩, h3, ⟨h4, h5⟩⟩ := h
  refine ⟨⟨by show (u.r.map Rt.er).length ≤ _; rw [List.length_map]; exact h1, fun i hi => ?_⟩, h3, ⟨by show (u.p.map Pd.er).length ≤ _; rw [List.length_map]; exact h4, fun i hi => ?_⟩⟩
  · have hi' : i < u.r.length := by have := hi; change i < (u.r.map Rt.er).length at this; rwa [List.length_map] at this
    have e : u.er.r[i] = Rt.er u.r[i] := by show (u.r.map Rt.er)[i]'(by rw [List.length_map]; exact hi') = _; rw [List.getElem_map]
    rw [e]; exact h2 i hi'
  · have hi' : i < u.p.length := by have := hi; change i < (u.p.map Pd.er).length at this; rwa [List.length_map] at this
    have e : u.er.p[i] = Pd.er u.p[i] := by show (u.p.map Pd.er)[i]'(by rw [List.length_map]; exact hi') = _; rw [List.getElem_map]
    rw [e]
    obtain ⟨x1, x2, x3, x4⟩ := h5 i hi'
    exact ⟨x1, x2, x3, X.Wf_er _ x4⟩
set_option maxRecDepth 20000 in
set_option maxHeartbeats 16000000 in
theorem walk (w : World) (u : Un) (s1 s2 s3 : Value) (hw : u.Wf) (hr : Urd X.Kd w (· < w.heap.size) u s1 s2 s3) : Calls Try.prog 3 #[.agg #[s1, s2, s3]] w fun e w' => e = .returned (.bool true) ∧ Below w.heap.size w w' := by
  obtain ⟨A1, a1, rfl⟩ := hr.1.form
  obtain ⟨A2, a2, rfl⟩ := hr.2.1.form
  obtain ⟨A3, a3, rfl⟩ := hr.2.2.form
  have hZ := fun (W : World) (hW : Below w.heap.size w W) => szUn u _ _ _ (· < w.heap.size) W 1048576 (hr.below hW fun _ h => h) (fun _ h => Nat.lt_of_lt_of_le h hW.size) hw (by omega)
  by_cases hs : u.siz ≤ 1048576
  · have hT := fun (W : World) (hW : Below w.heap.size w W) => toUn u _ _ _ (· < w.heap.size) W (hr.below hW fun _ h => h) (fun _ h => Nat.lt_of_lt_of_le h hW.size) (by omega)
    have hcn := cn_le u
    have hce := cn_er u
    have hwe := wf_er hw
    have hzu : u.siz = (u.r.length + sumF Rt.siz u.r) + ((u.g.length + sizS u.g) + (u.p.length + sumF Pd.siz u.p)) := rfl
    have hS := fun (W : World) (B : Nat) (F : List Nat) (s1 s2 s3 : Value) (h : OUn 41 46 W B u s1 s2 s3 F) => specEraseU u s1 s2 s3 B F W h hs
    have hI := fun (W : World) (B : Nat) (F : List Nat) (s1 s2 s3 : Value) (h : OUn 41 46 W B u s1 s2 s3 F) => implEraseU u s1 s2 s3 B F W h hs
    have hE := fun (W : World) (B B' : Nat) (F G : List Nat) (s1 s2 s3 z1 z2 z3 : Value) (h : OUn 41 46 W B u s1 s2 s3 F) (h' : OUn 41 46 W B' u z1 z2 z3 G) => eqUn u s1 s2 s3 z1 z2 z3 (· < W.heap.size) W (h.read fun b hb => (h.lt b hb).2).kd (h'.read fun b hb => (h'.lt b hb).2).kd (fun _ h => h) hw
    have hEr := fun (W : World) (B B' : Nat) (F G : List Nat) (s1 s2 s3 z1 z2 z3 : Value) (h : OUn 41 46 W B u.er s1 s2 s3 F) (h' : OUn 41 46 W B' u.er z1 z2 z3 G) => eqUn u.er s1 s2 s3 z1 z2 z3 (· < W.heap.size) W (h.read fun b hb => (h.lt b hb).2).kd (h'.read fun b hb => (h'.lt b hb).2).kd (fun _ h => h) hwe
    have hMx := fun (W : World) (B : Nat) (F : List Nat) (s1 s2 s3 : Value) (h : OUn 41 46 W B u s1 s2 s3 F) (hn : F.Nodup) => markUn u 1 B s1 s2 s3 F W h hn (by omega) (by omega) (by omega) (by omega)
    have hMe := fun (W : World) (B : Nat) (F : List Nat) (s1 s2 s3 : Value) (h : OUn 41 46 W B u.er s1 s2 s3 F) (hn : F.Nodup) => markUn u.er 1 B s1 s2 s3 F W h hn (by omega) (by omega) (by show (u.r.map Rt.er).length ≤ _; rw [List.length_map]; omega) (by show (u.p.map Pd.er).length ≤ _; rw [List.length_map]; omega)
    have hH := fun (W : World) (B : Nat) (F : List Nat) (s1 s2 s3 : Value) (h : OUn 41 46 W B (u.er.mark 1) s1 s2 s3 F) => heldUn u.er 1 s1 s2 s3 (· < W.heap.size) W (h.read fun b hb => (h.lt b hb).2).kd (fun _ h => h) (by omega) (by omega) (by show (u.r.map Rt.er).length ≤ _; rw [List.length_map]; omega) (by show (u.p.map Pd.er).length ≤ _; rw [List.length_map]; omega)
    obtain ⟨m0, hm0⟩ : ∃ m0, m0 = 1048576 - u.siz := ⟨_, rfl⟩
    rw [X.leftOf_yes hs, ← hm0] at hZ
    obtain ⟨z, hz⟩ : ∃ z, z = 1 + u.cn := ⟨_, rfl⟩
    rw [hce] at hMe hH
    rw [← hz] at hMx hMe hH
    have b0 : decide ((m0 : Int) < 0) = false := by simp
    have b1 : decide ((z : Int) < 0) = false := by simp
    clear hm0 hs hz hcn hce hwe hzu hw hr
    generalize hue : u.er = ue at *
    generalize hum : ue.mark 1 = um at *
    generalize hux : u.mark 1 = ux at *
    clear hue hum hux
    obtain ⟨r, g, p⟩ := u
    replace hT : ∀ (W : World), Below w.heap.size w W → Calls Try.prog 6 #[.agg #[.slice A1 r.length a1, .slice A2 g.length a2, .slice A3 p.length a3]] W fun e w' => ∃ (D1 : Option Addr) (d1 : Nat) (D2 : Option Addr) (d2 : Nat) (D3 : Option Addr) (d3 : Nat) (F : List Nat), e = .returned (.agg #[.slice D1 r.length d1, .slice D2 g.length d2, .slice D3 p.length d3]) ∧ OUn 41 46 w' W.heap.size ⟨r, g, p⟩ (.slice D1 r.length d1) (.slice D2 g.length d2) (.slice D3 p.length d3) F ∧ F.Nodup ∧ Below W.heap.size W w' := hT
    replace hS : ∀ (W : World) (B : Nat) (F : List Nat) (A1 : Option Addr) (a1 : Nat) (A2 : Option Addr) (a2 : Nat) (A3 : Option Addr) (a3 : Nat), OUn 41 46 W B ⟨r, g, p⟩ (.slice A1 r.length a1) (.slice A2 g.length a2) (.slice A3 p.length a3) F → Calls Try.prog 5 #[.agg #[.slice A1 r.length a1, .slice A2 g.length a2, .slice A3 p.length a3]] W fun e w' => ∃ (D1 : Option Addr) (d1 : Nat) (D2 : Option Addr) (d2 : Nat) (D3 : Option Addr) (d3 : Nat) (F : List Nat), e = .returned (.agg #[.slice D1 r.length d1, .slice D2 g.length d2, .slice D3 p.length d3]) ∧ OUn 41 46 w' W.heap.size ue (.slice D1 r.length d1) (.slice D2 g.length d2) (.slice D3 p.length d3) F ∧ F.Nodup ∧ Below W.heap.size W w' := fun W B F A1 a1 A2 a2 A3 a3 h => hS W B F _ _ _ h
    replace hI : ∀ (W : World) (B : Nat) (F : List Nat) (A1 : Option Addr) (a1 : Nat) (A2 : Option Addr) (a2 : Nat) (A3 : Option Addr) (a3 : Nat), OUn 41 46 W B ⟨r, g, p⟩ (.slice A1 r.length a1) (.slice A2 g.length a2) (.slice A3 p.length a3) F → Calls Try.prog 7 #[.agg #[.slice A1 r.length a1, .slice A2 g.length a2, .slice A3 p.length a3]] W fun e w' => ∃ (D1 : Option Addr) (d1 : Nat) (D2 : Option Addr) (d2 : Nat) (D3 : Option Addr) (d3 : Nat) (F : List Nat), e = .returned (.agg #[.slice D1 r.length d1, .slice D2 g.length d2, .slice D3 p.length d3]) ∧ OUn 41 46 w' W.heap.size ue (.slice D1 r.length d1) (.slice D2 g.length d2) (.slice D3 p.length d3) F ∧ F.Nodup ∧ Below W.heap.size W w' := fun W B F A1 a1 A2 a2 A3 a3 h => hI W B F _ _ _ h
    have hbb : Below w.heap.size w w := Below.refl _ _
    have hzz := hbb.size
    show Calls Try.prog 3 #[.agg #[.slice A1 r.length a1, .slice A2 g.length a2, .slice A3 p.length a3]] w _
    go_enter Try.func3, Try.ntmps3
    go_upto_region 6 with (first
      | (go_at_call 4; refine (hZ _ (by repeat (first | exact hbb | refine Below.drew ?_ | refine Below.setCell ?_ (by (try simp); try omega) _ | refine Below.alloc ?_ (by (try simp); try omega) _))).mono ?_; rintro e w1 ⟨rfl, hb1⟩; have hbb := X.grow (w := w) (by repeat (first | exact hbb | refine Below.drew ?_ | refine Below.setCell ?_ (by (try simp); try omega) _ | refine Below.alloc ?_ (by (try simp); try omega) _)) hb1; have hzz := hbb.size; have hv : Blk w1 w.heap.size 26 #[.slice A1 r.length a1, .slice A2 g.length a2, .slice A3 p.length a3] := (Blk.new _ _ _).kept hb1; obtain ⟨x0, x1, x2⟩ := Blk.c3 hv)
      | (go_at_call 6; refine (hT _ (by repeat (first | exact hbb | refine Below.drew ?_ | refine Below.setCell ?_ (by (try simp); try omega) _ | refine Below.alloc ?_ (by (try simp); try omega) _))).mono ?_; rintro e w2 ⟨D1, d1, D2, d2, D3, d3, F2, rfl, hk2, hnd2, hb2⟩; have hbb := X.grow (w := w) (by repeat (first | exact hbb | refine Below.drew ?_ | refine Below.setCell ?_ (by (try simp); try omega) _ | refine Below.alloc ?_ (by (try simp); try omega) _)) hb2; have hzz := hbb.size; have hv := hv.kept hb2; have hvl2 := hv.lt)
      | (go_at_call 5; refine (hS _ _ _ _ _ _ _ _ _ (hk2.kept (by repeat (first | exact Below.refl _ _ | refine Below.drew ?_ | refine Below.setCell ?_ (by (try simp); try omega) _ | refine Below.alloc ?_ (by (try simp); try omega) _)))).mono ?_; rintro e w4 ⟨F1, f1, F2, f2, F3, f3, F4, rfl, hk4, hnd4, hb4⟩; have hbb := X.grow (w := w) (by repeat (first | exact hbb | refine Below.drew ?_ | refine Below.setCell ?_ (by (try simp); try omega) _ | refine Below.alloc ?_ (by (try simp); try omega) _)) hb4; have hzz := hbb.size; have hv := hv.kept hb4; have hvl := hv.lt; obtain ⟨x0, x1, x2⟩ := Blk.c3 hv))
    have hvl0 : w.heap.size < w4.heap.size := hvl
    have hF4 : ∀ b ∈ F4, w.heap.size < b ∧ b < w4.heap.size := fun b hb => by have := hk4.lt b hb; omega
    go_upto_region 7 with (go_at_call 6; refine (hT _ (by repeat (first | exact hbb | refine Below.drew ?_ | refine Below.setCell ?_ (by (try simp); try omega) _ | refine Below.alloc ?_ (by (try simp); try omega) _))).mono ?_; rintro e w5 ⟨H1, h1, H2, h2, H3, h3, F5, rfl, hk5, hnd5, hb5⟩; have hbb := X.grow (w := w) (by repeat (first | exact hbb | refine Below.drew ?_ | refine Below.setCell ?_ (by (try simp); try omega) _ | refine Below.alloc ?_ (by (try simp); try omega) _)) hb5; have hzz := hbb.size; have hv := (hv.alloc _).kept hb5; have hx4 : Blk w5 w4.heap.size 31 #[.slice F1 r.length f1, .slice F2 g.length f2, .slice F3 p.length f3] := (Blk.new _ _ _).kept hb5; have hk4 := hk4.kept (X.grow (w := w4) (by repeat (first | exact Below.refl _ _ | refine Below.drew ?_ | refine Below.setCell ?_ (by (try simp); try omega) _ | refine Below.alloc ?_ (by (try simp); try omega) _)) hb5); have hvl := hv.lt; have hxl4 := hx4.lt; obtain ⟨x0, x1, x2⟩ := Blk.c3 hv; obtain ⟨y0, y1, y2⟩ := Blk.c3 hx4)
    have hs45 : w4.heap.size < w5.heap.size := hxl4
    have hF5 : ∀ b ∈ F5, w4.heap.size < b ∧ b < w5.heap.size := fun b hb => by have := hk5.lt b hb; simp at this; omega
    go_upto_region 8 with (go_at_call 7; refine (hI _ _ _ _ _ _ _ _ _ (hk5.kept (by repeat (first | exact Below.refl _ _ | refine Below.drew ?_ | refine Below.setCell ?_ (by (try simp); try omega) _ | refine Below.alloc ?_ (by (try simp); try omega) _)))).mono ?_; rintro e w6 ⟨I1, i1, I2, i2, I3, i3, F6, rfl, hk6, hnd6, hb6⟩; have hbb := X.grow (w := w) (by repeat (first | exact hbb | refine Below.drew ?_ | refine Below.setCell ?_ (by (try simp); try omega) _ | refine Below.alloc ?_ (by (try simp); try omega) _)) hb6; have hzz := hbb.size; have hv := (hv.alloc _).kept hb6; have hx4 := (hx4.alloc _).kept hb6; have hx5 : Blk w6 w5.heap.size 31 #[.slice H1 r.length h1, .slice H2 g.length h2, .slice H3 p.length h3] := (Blk.new _ _ _).kept hb6; have hk4 := hk4.kept (X.grow (w := w5) (by repeat (first | exact Below.refl _ _ | refine Below.drew ?_ | refine Below.setCell ?_ (by (try simp); try omega) _ | refine Below.alloc ?_ (by (try simp); try omega) _)) hb6); have hk5 := hk5.kept (X.grow (w := w5) (by repeat (first | exact Below.refl _ _ | refine Below.drew ?_ | refine Below.setCell ?_ (by (try simp); try omega) _ | refine Below.alloc ?_ (by (try simp); try omega) _)) hb6); have hvl := hv.lt; have hxl4 := hx4.lt; have hxl5 := hx5.lt; obtain ⟨x0, x1, x2⟩ := Blk.c3 hv; obtain ⟨y0, y1, y2⟩ := Blk.c3 hx4; obtain ⟨o0, o1, o2⟩ := Blk.c3 hx5)
    have hs56 : w5.heap.size < w6.heap.size := hxl5
    have hF6 : ∀ b ∈ F6, w5.heap.size < b ∧ b < w6.heap.size := fun b hb => by have := hk6.lt b hb; simp at this; omega
    go_upto_region 10 with (go_at_call 8; refine (hEr _ _ _ _ _ _ _ _ _ _ _ (hk6.kept (by repeat (first | exact Below.refl _ _ | refine Below.drew ?_ | refine Below.setCell ?_ (by (try simp); try omega) _ | refine Below.alloc ?_ (by (try simp); try omega) _))) (hk4.kept (by repeat (first | exact Below.refl _ _ | refine Below.drew ?_ | refine Below.setCell ?_ (by (try simp); try omega) _ | refine Below.alloc ?_ (by (try simp); try omega) _)))).mono ?_; rintro e w7 ⟨rfl, hb7⟩; have hbb := X.grow (w := w) (by repeat (first | exact hbb | refine Below.drew ?_ | refine Below.setCell ?_ (by (try simp); try omega) _ | refine Below.alloc ?_ (by (try simp); try omega) _)) hb7; have hzz := hbb.size; have hv := (hv.alloc _).kept hb7; have hx4 := (hx4.alloc _).kept hb7; have hx5 := (hx5.alloc _).kept hb7; have hx6 : Blk w7 w6.heap.size 31 #[.slice I1 r.length i1, .slice I2 g.length i2, .slice I3 p.length i3] := (Blk.new _ _ _).kept hb7; have hb67 := X.grow (w := w6) (by repeat (first | exact Below.refl _ _ | refine Below.drew ?_ | refine Below.setCell ?_ (by (try simp); try omega) _ | refine Below.alloc ?_ (by (try simp); try omega) _)) hb7; have hk4 := hk4.kept hb67; have hk5 := hk5.kept hb67; have hk6 := hk6.kept hb67)
    clear x0 x1 x2 y0 y1 y2 o0 o1 o2
    obtain ⟨x0, x1, x2⟩ := Blk.c3 hv
    obtain ⟨o0, o1, o2⟩ := Blk.c3 hx5
    go_cut [31] (fun z wx => z = .bool false ∧ Below w7.heap.size w7 wx)
    case first =>
      go_region_held3 (fun w' => w'.cell? ⟨w.heap.size, 0, none⟩ = some (.slice A1 r.length a1) ∧ w'.cell? ⟨w.heap.size, 1, none⟩ = some (.slice A2 g.length a2) ∧ w'.cell? ⟨w.heap.size, 2, none⟩ = some (.slice A3 p.length a3) ∧ w'.cell? ⟨w5.heap.size, 0, none⟩ = some (.slice H1 r.length h1) ∧ w'.cell? ⟨w5.heap.size, 1, none⟩ = some (.slice H2 g.length h2) ∧ w'.cell? ⟨w5.heap.size, 2, none⟩ = some (.slice H3 p.length h3)) ((refine keepU hv hx5 ?_; repeat (first | exact Below.refl _ _ | refine Below.drew ?_ | refine Below.alloc ?_ (by (try simp); try omega) _ | refine Below.trans ?_ (hb3.mono (by (try simp); try omega)) | refine Below.trans ?_ (hb4.mono (by (try simp); try omega)) | refine Below.trans ?_ (hb5.mono (by (try simp); try omega)))))
        (first | (go_at_call 6; refine (hT _ (hbb.trans (Below.mono (by repeat (first | exact Below.refl _ _ | refine Below.drew ?_ | refine Below.alloc ?_ (by (try simp); try omega) _ | refine Below.trans ?_ (hb3.mono (by (try simp); try omega)) | refine Below.trans ?_ (hb4.mono (by (try simp); try omega)) | refine Below.trans ?_ (hb5.mono (by (try simp); try omega)))) hzz))).mono ?_; rintro e w3 ⟨J1, j1, J2, j2, J3, j3, F3, rfl, hk3, hnd3, hb3⟩; have hz3 := hb3.size; (try simp at hz3)) | (go_at_call 8; refine (hE _ _ _ _ _ _ _ _ _ _ _ (hk5.kept (by repeat (first | exact Below.refl _ _ | refine Below.drew ?_ | refine Below.alloc ?_ (by (try simp); try omega) _ | refine Below.trans ?_ (hb3.mono (by (try simp); try omega)) | refine Below.trans ?_ (hb4.mono (by (try simp); try omega)) | refine Below.trans ?_ (hb5.mono (by (try simp); try omega))))) (hk3.kept (by repeat (first | exact Below.refl _ _ | refine Below.drew ?_ | refine Below.setCell ?_ (by (try simp); try omega) _ | refine Below.alloc ?_ (by (try simp); try omega) _)))).mono ?_; rintro e w4' ⟨rfl, hb4⟩; have hz4 := hb4.size; (try simp at hz4)))
      all_goals
        go_wp2_with fail
        go_meet
        exact ⟨rfl, by repeat (first | exact Below.refl _ _ | refine Below.drew ?_ | refine Below.alloc ?_ (by (try simp); try omega) _ | refine Below.trans ?_ (hb3.mono (by (try simp); try omega)) | refine Below.trans ?_ (hb4.mono (by (try simp); try omega)) | refine Below.trans ?_ (hb5.mono (by (try simp); try omega)))⟩
    case rest =>
      clear x0 x1 x2 o0 o1 o2
      obtain ⟨rfl, hb8⟩ := hcut
      have hbb := X.grow (w := w) hbb hb8
      have hv := hv.kept hb8
      have hx4 := hx4.kept hb8
      have hx5 := hx5.kept hb8
      have hx6 := hx6.kept hb8
      have hk4 := hk4.kept hb8
      have hk5 := hk5.kept hb8
      have hk6 := hk6.kept hb8
      obtain ⟨o0, o1, o2⟩ := Blk.c3 hx5
      go_upto_region 14 with (go_at_call 9; refine (hMx _ _ _ _ _ _ hk5 hnd5).mono ?_; rintro e w9 ⟨rfl, -, hc9⟩)
      clear o0 o1 o2
      have hbb := hbb.trans (hc9.below (B := w.heap.size) (fun b hb => by have := hF5 b hb; omega) hbb.size)
      have hzz := hbb.size
      have hv := hv.ch hc9 (fun hm => by have := hF5 _ hm; omega)
      have hx4 := hx4.ch hc9 (fun hm => by have := hF5 _ hm; omega)
      have hx6 := hx6.ch hc9 (fun hm => by have := hF5 _ hm; omega)
      have hk4 := hk4.ch hc9 (fun b hb hm => by have := hF5 _ hm; have := hF4 b hb; omega)
      have hk6 := hk6.ch hc9 (fun b hb hm => by have := hF5 _ hm; have := hF6 b hb; omega)
      obtain ⟨y0, y1, y2⟩ := Blk.c3 hx4
      obtain ⟨t0, t1, t2⟩ := Blk.c3 hx6
      go_upto_region 16 with (go_at_call 8; refine (hEr _ _ _ _ _ _ _ _ _ _ _ (hk6.kept (by repeat (first | exact Below.refl _ _ | refine Below.drew ?_ | refine Below.setCell ?_ (by (try simp); try omega) _ | refine Below.alloc ?_ (by (try simp); try omega) _))) (hk4.kept (by repeat (first | exact Below.refl _ _ | refine Below.drew ?_ | refine Below.setCell ?_ (by (try simp); try omega) _ | refine Below.alloc ?_ (by (try simp); try omega) _)))).mono ?_; rintro e w10 ⟨rfl, hb10⟩)
      clear y0 y1 y2 t0 t1 t2
      have hbb := X.grow (w := w) hbb hb10
      have hzz := hbb.size
      have hv := hv.kept hb10
      have hx4 := hx4.kept hb10
      have hx6 := hx6.kept hb10
      have hk4 := hk4.kept hb10
      have hk6 := hk6.kept hb10
      obtain ⟨t0, t1, t2⟩ := Blk.c3 hx6
      go_upto_region 18 with (go_at_call 9; refine (hMe _ _ _ _ _ _ hk6 hnd6).mono ?_; rintro e w11 ⟨rfl, hk6m, hc11⟩)
      clear t0 t1 t2
      have hbb := hbb.trans (hc11.below (B := w.heap.size) (fun b hb => by have := hF6 b hb; omega) hbb.size)
      have hzz := hbb.size
      have hv := hv.ch hc11 (fun hm => by have := hF6 _ hm; omega)
      have hx4 := hx4.ch hc11 (fun hm => by have := hF6 _ hm; omega)
      have hx6 := hx6.ch hc11 (fun hm => by have := hF6 _ hm; omega)
      have hk4 := hk4.ch hc11 (fun b hb hm => by have := hF6 _ hm; have := hF4 b hb; omega)
      obtain ⟨t0, t1, t2⟩ := Blk.c3 hx6
      go_upto_region 24 with (go_at_call 10; refine (hH _ _ _ _ _ _ (hk6m.kept (by repeat (first | exact Below.refl _ _ | refine Below.drew ?_ | refine Below.setCell ?_ (by (try simp); try omega) _ | refine Below.alloc ?_ (by (try simp); try omega) _)))).mono ?_; rintro e w12 ⟨rfl, hb12⟩)
      clear t0 t1 t2
      have hbb := X.grow (w := w) hbb hb12
      have hzz := hbb.size
      have hv := hv.kept hb12
      have hx4 := hx4.kept hb12
      have hx6 := hx6.kept hb12
      have hk4 := hk4.kept hb12
      have hk6m := hk6m.kept hb12
      obtain ⟨x0, x1, x2⟩ := Blk.c3 hv
      go_upto_region 25 with (first
        | (go_at_call 6; refine (hT _ hbb).mono ?_; rintro e w13 ⟨K1, k1, K2, k2, K3, k3, F13, rfl, hk13, hnd13, hb13⟩)
        | (go_at_call 7; refine (hI _ _ _ _ _ _ _ _ _ (hk13.kept (by repeat (first | exact Below.refl _ _ | refine Below.drew ?_ | refine Below.setCell ?_ (by (try simp); try omega) _ | refine Below.alloc ?_ (by (try simp); try omega) _)))).mono ?_; rintro e w14 ⟨L1, l1, L2, l2, L3, l3, F14, rfl, hk14, hnd14, hb14⟩))
      clear x0 x1 x2
      have hb34 := Below.trans hb13 (hb14.mono hb13.size)
      have hbb := X.grow (w := w) hbb hb34
      have hzz := hbb.size
      have hx4 := hx4.kept hb34
      have hx6 := hx6.kept hb34
      have hk4 := hk4.kept hb34
      have hk6m := hk6m.kept hb34
      have hxl4 := hx4.lt
      have hxl6 := hx6.lt
      obtain ⟨y0, y1, y2⟩ := Blk.c3 hx4
      go_upto_region 28 with (go_at_call 8; refine (hEr _ _ _ _ _ _ _ _ _ _ _ (hk14.kept (by repeat (first | exact Below.refl _ _ | refine Below.drew ?_ | refine Below.setCell ?_ (by (try simp); try omega) _ | refine Below.alloc ?_ (by (try simp); try omega) _))) (hk4.kept (by repeat (first | exact Below.refl _ _ | refine Below.drew ?_ | refine Below.setCell ?_ (by (try simp); try omega) _ | refine Below.alloc ?_ (by (try simp); try omega) _)))).mono ?_; rintro e w15 ⟨rfl, hb15⟩; have hbb := X.grow (w := w) (by repeat (first | exact hbb | refine Below.drew ?_ | refine Below.setCell ?_ (by (try simp); try omega) _ | refine Below.alloc ?_ (by (try simp); try omega) _)) hb15; have hzz := hbb.size; have hx6 := (hx6.alloc _).kept hb15; have hk6m := hk6m.kept (X.grow (w := w14) (by repeat (first | exact Below.refl _ _ | refine Below.drew ?_ | refine Below.setCell ?_ (by (try simp); try omega) _ | refine Below.alloc ?_ (by (try simp); try omega) _)) hb15))
      clear y0 y1 y2
      obtain ⟨t0, t1, t2⟩ := Blk.c3 hx6
      go_wp2_with (go_at_call 10; refine (hH _ _ _ _ _ _ (hk6m.kept (by repeat (first | exact Below.refl _ _ | refine Below.drew ?_ | refine Below.setCell ?_ (by (try simp); try omega) _ | refine Below.alloc ?_ (by (try simp); try omega) _)))).mono ?_; rintro e w16 ⟨rfl, hb16⟩)
      go_ret
      exact ⟨rfl, X.grow (w := w) hbb hb16⟩
  · rw [X.leftOf_no hs] at hZ
    clear hs hw hr
    obtain ⟨r, g, p⟩ := u
    show Calls Try.prog 3 #[.agg #[.slice A1 r.length a1, .slice A2 g.length a2, .slice A3 p.length a3]] w _
    go_enter Try.func3, Try.ntmps3
    go_wp2_with (go_at_call 4; refine (hZ _ (by repeat (first | exact Below.refl _ _ | refine Below.drew ?_ | refine Below.setCell ?_ (by (try simp); try omega) _ | refine Below.alloc ?_ (by (try simp); try omega) _))).mono ?_; rintro e w1 ⟨rfl, hb1⟩)
    go_ret
    exact ⟨rfl, X.grow (w := w) (by repeat (first | exact Below.refl _ _ | refine Below.drew ?_ | refine Below.setCell ?_ (by (try simp); try omega) _ | refine Below.alloc ?_ (by (try simp); try omega) _)) hb1⟩

end Go.Proofs.Ytljblaglfooclaa.lEraseUnitLines
