/- Proved here: units (record types, global names, procedures) as plain data, their sizes, and how they lie in memory, read. No condition. Proved here: rows of structs of a call's own whose fields own memory themselves. No condition. -/
import Derived.Test.YtljblaglfooclaaXm
import Derived.Test.YtljblaglfooclaaSs
import Derived.Test.YtljblaglfooclaaGw
import Derived.Test.YtljblaglfooclaaKc
namespace Go.Proofs.Ytljblaglfooclaa
open Go.RowKit

/-- A record type: its name, the names of its fields, its line. -/
structure Rt where
  t : ByteArray
  f : List ByteArray
  l : Int
/-- A procedure: its name, its parameters, its locals, its body, its line. -/
structure Pd where
  t : ByteArray
  p : List ByteArray
  q : List ByteArray
  x : X
  l : Int
/-- A unit. -/
structure Un where
  r : List Rt
  g : List ByteArray
  p : List Pd
def Rt.siz (a : Rt) : Nat := a.t.size + (a.f.length + sizS a.f)
def Pd.siz (a : Pd) : Nat := a.t.size + ((a.p.length + sizS a.p) + ((a.q.length + sizS a.q) + X.siz a.x))
/-- The sum of a measure over a list. -/
def sumF {α : Type} (f : α → Nat) (l : List α) : Nat := (l.map f).sum
theorem sumF_take {α : Type} (f : α → Nat) (l : List α) {i : Nat} (h : i < l.length) : sumF f (l.take (i + 1)) = sumF f (l.take i) + f l[i] := by
  unfold sumF
  rw [List.take_succ_eq_append_getElem h, List.map_append, List.sum_append]
  simp only [List.map_cons, List.map_nil, List.sum_cons, List.sum_nil, Nat.add_zero]
theorem sumF_le {α : Type} (f : α → Nat) (l : List α) (i : Nat) : sumF f (l.take i) ≤ sumF f l := by
  conv => rhs; rw [← List.take_append_drop i l]
  unfold sumF
  rw [List.map_append, List.sum_append]; omega
theorem sumF_at {α : Type} (f : α → Nat) (l : List α) {i : Nat} (h : i < l.length) : f l[i] ≤ sumF f l := by
  have h1 := sumF_take f l h
  have h2 := sumF_le f l (i + 1)
  omega
def Un.siz (u : Un) : Nat := (u.r.length + sumF Rt.siz u.r) + ((u.g.length + sizS u.g) + (u.p.length + sumF Pd.siz u.p))
/-- Texts that fit. -/
def fitS (l : List ByteArray) : Prop := l.length ≤ maxLen ∧ ∀ i (h : i < l.length), l[i].size ≤ maxLen
def Rt.Wf (a : Rt) : Prop := a.t.size ≤ maxLen ∧ fitS a.f
def Pd.Wf (a : Pd) : Prop := a.t.size ≤ maxLen ∧ fitS a.p ∧ fitS a.q ∧ X.Wf a.x
def Un.Wf (u : Un) : Prop := (u.r.length ≤ maxLen ∧ ∀ i (h : i < u.r.length), u.r[i].Wf) ∧ fitS u.g ∧ (u.p.length ≤ maxLen ∧ ∀ i (h : i < u.p.length), u.p[i].Wf)
/-- The record types r lie at the slice s, in blocks that meet P. -/
def Rts (w : World) (P : Nat → Prop) (r : List Rt) (s : Value) : Prop :=
  ∃ A cap, s = .slice A r.length cap ∧ (0 < r.length → ∃ b o, A = some ⟨b, o, none⟩ ∧ P b ∧ ∀ i (h : i < r.length), ∃ s1, Sr w P s1 r[i].f ∧
    w.cell? ⟨b, o + i * 3, none⟩ = some (.string r[i].t) ∧ w.cell? ⟨b, o + i * 3 + 1, none⟩ = some s1 ∧ w.cell? ⟨b, o + i * 3 + 2, none⟩ = some (.int .i64 r[i].l))
/-- How the kids of a body lie. -/
abbrev KP := World → (Nat → Prop) → List X → Value → Prop
/-- The procedures p lie at the slice s. -/
def Pds (K : KP) (w : World) (P : Nat → Prop) (p : List Pd) (s : Value) : Prop :=
  ∃ A cap, s = .slice A p.length cap ∧ (0 < p.length → ∃ b o, A = some ⟨b, o, none⟩ ∧ P b ∧ ∀ i (h : i < p.length), ∃ s1 s2 s3, Sr w P s1 p[i].p ∧ Sr w P s2 p[i].q ∧ K w P p[i].x.r s3 ∧
    w.cell? ⟨b, o + i * 9, none⟩ = some (.string p[i].t) ∧ w.cell? ⟨b, o + i * 9 + 1, none⟩ = some s1 ∧ w.cell? ⟨b, o + i * 9 + 2, none⟩ = some s2 ∧
    w.cell? ⟨b, o + i * 9 + 3, none⟩ = some (.int .i64 p[i].x.k) ∧ w.cell? ⟨b, o + i * 9 + 4, none⟩ = some (.string p[i].x.t) ∧ w.cell? ⟨b, o + i * 9 + 5, none⟩ = some (.int .i64 p[i].x.n) ∧
    w.cell? ⟨b, o + i * 9 + 6, none⟩ = some (.int .i64 p[i].x.l) ∧ w.cell? ⟨b, o + i * 9 + 7, none⟩ = some s3 ∧ w.cell? ⟨b, o + i * 9 + 8, none⟩ = some (.int .i64 p[i].l))
theorem Rts.form {w : World} {P : Nat → Prop} {r : List Rt} {s : Value} (h : Rts w P r s) : ∃ A cap, s = .slice A r.length cap := by
  obtain ⟨A, cap, e, _⟩ := h
  exact ⟨A, cap, e⟩
theorem Pds.form {K : KP} {w : World} {P : Nat → Prop} {p : List Pd} {s : Value} (h : Pds K w P p s) : ∃ A cap, s = .slice A p.length cap := by
  obtain ⟨A, cap, e, _⟩ := h
  exact ⟨A, cap, e⟩
theorem Rts.at_ {w : World} {P : Nat → Prop} {r : List Rt} {A : Option Addr} {n cap : Nat} (h : Rts w P r (.slice A n cap)) {i : Nat} (hi : i < r.length) :
    ∃ b o s1, A = some ⟨b, o, none⟩ ∧ P b ∧ Sr w P s1 r[i].f ∧ w.cell? ⟨b, o + i * 3, none⟩ = some (.string r[i].t) ∧ w.cell? ⟨b, o + i * 3 + 1, none⟩ = some s1 ∧ w.cell? ⟨b, o + i * 3 + 2, none⟩ = some (.int .i64 r[i].l) := by
  obtain ⟨A', cap', e, h⟩ := h
  simp only [Value.slice.injEq] at e
  obtain ⟨rfl, _, _⟩ := e
  obtain ⟨b, o, e, hb, hc⟩ := h (by omega)
  obtain ⟨s1, h1⟩ := hc i hi
  exact ⟨b, o, s1, e, hb, h1⟩
theorem Pds.at_ {K : KP} {w : World} {P : Nat → Prop} {p : List Pd} {A : Option Addr} {n cap : Nat} (h : Pds K w P p (.slice A n cap)) {i : Nat} (hi : i < p.length) :
    ∃ b o s1 s2 s3, A = some ⟨b, o, none⟩ ∧ P b ∧ Sr w P s1 p[i].p ∧ Sr w P s2 p[i].q ∧ K w P p[i].x.r s3 ∧
    w.cell? ⟨b, o + i * 9, none⟩ = some (.string p[i].t) ∧ w.cell? ⟨b, o + i * 9 + 1, none⟩ = some s1 ∧ w.cell? ⟨b, o + i * 9 + 2, none⟩ = some s2 ∧
    w.cell? ⟨b, o + i * 9 + 3, none⟩ = some (.int .i64 p[i].x.k) ∧ w.cell? ⟨b, o + i * 9 + 4, none⟩ = some (.string p[i].x.t) ∧ w.cell? ⟨b, o + i * 9 + 5, none⟩ = some (.int .i64 p[i].x.n) ∧
    w.cell? ⟨b, o + i * 9 + 6, none⟩ = some (.int .i64 p[i].x.l) ∧ w.cell? ⟨b, o + i * 9 + 7, none⟩ = some s3 ∧ w.cell? ⟨b, o + i * 9 + 8, none⟩ = some (.int .i64 p[i].l) := by
  obtain ⟨A', cap', e, h⟩ := h
  simp only [Value.slice.injEq] at e
  obtain ⟨rfl, _, _⟩ := e
  obtain ⟨b, o, e, hb, hc⟩ := h (by omega)
  obtain ⟨s1, s2, s3, h1⟩ := hc i hi
  exact ⟨b, o, s1, s2, s3, e, hb, h1⟩
theorem Rts.keep {w w' : World} {P P' : Nat → Prop} {r : List Rt} {s : Value} (h : Rts w P r s) (hk : ∀ p : Addr, P p.block → w'.cell? p = w.cell? p) (hP : ∀ b, P b → P' b) : Rts w' P' r s := by
  obtain ⟨A, cap, rfl, h⟩ := h
  refine ⟨A, cap, rfl, fun h0 => ?_⟩
  obtain ⟨b, o, rfl, hb0, hc⟩ := h h0
  refine ⟨b, o, rfl, hP b hb0, fun i hi => ?_⟩
  obtain ⟨s1, h1, c0, c1, c2⟩ := hc i hi
  exact ⟨s1, h1.keep hk hP, (hk ⟨b, _, none⟩ hb0).trans c0, (hk ⟨b, _, none⟩ hb0).trans c1, (hk ⟨b, _, none⟩ hb0).trans c2⟩
theorem Pds.keep {K K' : KP} {w w' : World} {P P' : Nat → Prop} {p : List Pd} {s : Value} (h : Pds K w P p s) (hK : ∀ {r : List X} {s : Value}, K w P r s → K' w' P' r s) (hk : ∀ p : Addr, P p.block → w'.cell? p = w.cell? p) (hP : ∀ b, P b → P' b) : Pds K' w' P' p s := by
  obtain ⟨A, cap, rfl, h⟩ := h
  refine ⟨A, cap, rfl, fun h0 => ?_⟩
  obtain ⟨b, o, rfl, hb0, hc⟩ := h h0
  refine ⟨b, o, rfl, hP b hb0, fun i hi => ?_⟩
  have hq : ∀ {k : Nat} {u : Value}, w.cell? ⟨b, k, none⟩ = some u → w'.cell? ⟨b, k, none⟩ = some u := fun c => (hk ⟨b, _, none⟩ hb0).trans c
  obtain ⟨s1, s2, s3, h1, h2, h3, c0, c1, c2, c3, c4, c5, c6, c7, c8⟩ := hc i hi
  exact ⟨s1, s2, s3, h1.keep hk hP, h2.keep hk hP, hK h3, hq c0, hq c1, hq c2, hq c3, hq c4, hq c5, hq c6, hq c7, hq c8⟩
theorem Rts.below {w w' : World} {P : Nat → Prop} {B : Nat} {r : List Rt} {s : Value} (h : Rts w P r s) (hb : Below B w w') (hP : ∀ b, P b → b < B) : Rts w' P r s :=
  h.keep (fun _ hp => hb.cell (hP _ hp)) (fun _ h => h)
theorem Pds.below {w w' : World} {P : Nat → Prop} {B : Nat} {p : List Pd} {s : Value} (h : Pds X.Kd w P p s) (hb : Below B w w') (hP : ∀ b, P b → b < B) : Pds X.Kd w' P p s :=
  h.keep (fun k => k.below hb hP) (fun _ hp => hb.cell (hP _ hp)) (fun _ h => h)
/-- The unit u lies at three slices. -/
def Urd (K : KP) (w : World) (P : Nat → Prop) (u : Un) (s1 s2 s3 : Value) : Prop := Rts w P u.r s1 ∧ Sr w P s2 u.g ∧ Pds K w P u.p s3
theorem Urd.below {w w' : World} {P : Nat → Prop} {B : Nat} {u : Un} {s1 s2 s3 : Value} (h : Urd X.Kd w P u s1 s2 s3) (hb : Below B w w') (hP : ∀ b, P b → b < B) : Urd X.Kd w' P u s1 s2 s3 :=
  ⟨h.1.below hb hP, h.2.1.below hb hP, h.2.2.below hb hP⟩
end Go.Proofs.Ytljblaglfooclaa

namespace Go.Proofs.Ytljblaglfooclaa
open Go.RowKit

/-- How an item of a row owns the blocks f, from B on. -/
abbrev Hold (α : Type) := World → Nat → α → List Nat → Prop
structure IL {α : Type} (I : Hold α) : Prop where
  keep : ∀ {w w' : World} {B : Nat} {a : α} {f : List Nat}, I w B a f → (∀ b ∈ f, w'.heap[b]? = w.heap[b]?) → I w' B a f
  lt : ∀ {w : World} {B : Nat} {a : α} {f : List Nat}, I w B a f → ∀ b ∈ f, B ≤ b ∧ b < w.heap.size
  mono : ∀ {w : World} {B B' : Nat} {a : α} {f : List Nat}, B' ≤ B → I w B a f → I w B' a f
/-- The items of a list own the blocks F, one behind the other. -/
def OwG {α : Type} (I : Hold α) (w : World) (B : Nat) : List α → List Nat → Prop
  | [], F => F = []
  | a :: r, F => ∃ f F', F = f ++ F' ∧ I w B a f ∧ OwG I w B r F'
section
variable {α : Type} {I : Hold α} {c : α → List Value} {z : Nat}
theorem OwG.keep (hI : IL I) {w w' : World} {B : Nat} : ∀ {r : List α} {F : List Nat}, OwG I w B r F → (∀ b ∈ F, w'.heap[b]? = w.heap[b]?) → OwG I w' B r F
  | [], _, h, _ => h
  | _ :: _, _, ⟨f, F', rfl, h0, h1⟩, hk => ⟨f, F', rfl, hI.keep h0 fun b hb => hk b (List.mem_append.2 (.inl hb)), OwG.keep hI h1 fun b hb => hk b (List.mem_append.2 (.inr hb))⟩
theorem OwG.lt (hI : IL I) {w : World} {B : Nat} : ∀ {r : List α} {F : List Nat}, OwG I w B r F → ∀ b ∈ F, B ≤ b ∧ b < w.heap.size
  | [], _, h, b, hb => by simp only [OwG] at h; simp [h] at hb
  | _ :: _, _, ⟨f, F', rfl, h0, h1⟩, b, hb => by
    rcases List.mem_append.1 hb with hb | hb
    · exact hI.lt h0 b hb
    · exact OwG.lt hI h1 b hb
theorem OwG.mono (hI : IL I) {w : World} {B B' : Nat} (hB : B' ≤ B) : ∀ {r : List α} {F : List Nat}, OwG I w B r F → OwG I w B' r F
  | [], _, h => h
  | _ :: _, _, ⟨f, F', rfl, h0, h1⟩ => ⟨f, F', rfl, hI.mono hB h0, OwG.mono hI hB h1⟩
theorem OwG.append {w : World} {B : Nat} : ∀ {r : List α} {F : List Nat}, OwG I w B r F → ∀ {r' : List α} {F' : List Nat}, OwG I w B r' F' → OwG I w B (r ++ r') (F ++ F')
  | [], _, h, r', F', h' => by simp only [OwG] at h; subst h; simpa using h'
  | _ :: _, _, ⟨f, F', rfl, h0, h1⟩, _, _, h' => ⟨f, _, by rw [List.append_assoc], h0, OwG.append h1 h'⟩
theorem OwG.one {w : World} {B : Nat} {a : α} {f : List Nat} (h : I w B a f) : OwG I w B [a] f := ⟨f, [], by simp, h, rfl⟩
theorem OwG.get {w : World} {B : Nat} : ∀ {r : List α} {F : List Nat}, OwG I w B r F → ∀ {i : Nat} (h : i < r.length), ∃ f, (∀ b ∈ f, b ∈ F) ∧ I w B r[i] f
  | _ :: _, _, ⟨f, F', rfl, h0, _⟩, 0, _ => ⟨f, fun b hb => List.mem_append.2 (.inl hb), h0⟩
  | _ :: _, _, ⟨f, F', rfl, _, h1⟩, i + 1, h => by
    obtain ⟨f', hf, h2⟩ := OwG.get h1 (i := i) (by simpa using h)
    exact ⟨f', fun b hb => List.mem_append.2 (.inr (hf b hb)), by simpa using h2⟩
theorem OwG.split {w : World} {B : Nat} : ∀ {r : List α} {G : List Nat} {j : Nat}, OwG I w B r G → ∀ (h : j < r.length), ∃ G1 f G2, G = G1 ++ (f ++ G2) ∧ OwG I w B (r.take j) G1 ∧ I w B r[j] f ∧ OwG I w B (r.drop (j + 1)) G2
  | _ :: _, _, 0, ⟨f, F', rfl, h0, h1⟩, _ => ⟨[], f, F', rfl, rfl, h0, h1⟩
  | _ :: _, _, j + 1, ⟨f, F', rfl, h0, h1⟩, h => by
    obtain ⟨G1, f', G2, rfl, a, b, d⟩ := OwG.split h1 (j := j) (by simpa using h)
    exact ⟨f ++ G1, f', G2, by simp, ⟨f, G1, rfl, h0, a⟩, b, d⟩
/-- The items L lie in a row of the call's own at s, and own what they hold. -/
def OkG (I : Hold α) (e : TypeId) (z : Nat) (c : α → List Value) (w : World) (B : Nat) (L : List α) (s : Value) (F : List Nat) : Prop :=
  ∃ G, w.ownsRow B e z s L.length (L.flatMap c) ∧ OwG I w B L G ∧ F = X.blkL s ++ G
theorem blkL_own {w : World} {B : Nat} {e : TypeId} {z n : Nat} {s : Value} {xs : List Value} (h : w.ownsRow B e z s n xs) : ∀ b ∈ X.blkL s, B ≤ b ∧ b < w.heap.size := by
  intro b hb
  unfold X.blkL at hb
  exact h.lt b (by simpa using hb)
theorem own_keepL {w w' : World} {B : Nat} {e : TypeId} {z n : Nat} {s : Value} {xs : List Value} (h : w.ownsRow B e z s n xs) (hk : ∀ b ∈ X.blkL s, w'.heap[b]? = w.heap[b]?) : w'.ownsRow B e z s n xs :=
  ownsRow_keep h fun k h => hk k (by unfold X.blkL; simpa using h)
theorem own_mono {w : World} {B B' : Nat} {e : TypeId} {z n : Nat} {s : Value} {xs : List Value} (h : w.ownsRow B e z s n xs) (hB : B' ≤ B) : w.ownsRow B' e z s n xs := by
  refine ⟨h.1, ?_⟩
  rcases h.2 with h0 | ⟨g, cap, cur, rfl, hg, rest⟩
  · exact .inl h0
  · exact .inr ⟨g, cap, cur, rfl, Nat.le_trans hB hg, rest⟩
variable {e : TypeId} {w w' : World} {B : Nat} {L : List α} {s : Value} {F : List Nat}
theorem OkG.keep (hI : IL I) (h : OkG I e z c w B L s F) (hk : ∀ b ∈ F, w'.heap[b]? = w.heap[b]?) : OkG I e z c w' B L s F := by
  obtain ⟨G, h0, h1, rfl⟩ := h
  exact ⟨G, own_keepL h0 fun b hb => hk b (List.mem_append.2 (.inl hb)), h1.keep hI fun b hb => hk b (List.mem_append.2 (.inr hb)), rfl⟩
theorem OkG.lt (hI : IL I) (h : OkG I e z c w B L s F) : ∀ b ∈ F, B ≤ b ∧ b < w.heap.size := by
  obtain ⟨G, h0, h1, rfl⟩ := h
  intro b hb
  rcases List.mem_append.1 hb with hb | hb
  · exact blkL_own h0 b hb
  · exact h1.lt hI b hb
theorem OkG.mono (hI : IL I) {B' : Nat} (h : OkG I e z c w B L s F) (hB : B' ≤ B) : OkG I e z c w B' L s F := by
  obtain ⟨G, h0, h1, rfl⟩ := h
  exact ⟨G, own_mono h0 hB, h1.mono hI hB, rfl⟩
theorem OkG.form (h : OkG I e z c w B L s F) : ∃ A cap, s = .slice A L.length cap := by
  obtain ⟨G, h0, _, _⟩ := h
  exact ownsRow_form h0
/-- What a row holds, item by item. -/
theorem OkG.read (hc : ∀ a, (c a).length = z) (h : OkG I e z c w B L s F) :
    ∃ A cap, s = .slice A L.length cap ∧ (0 < L.length → ∃ g, A = some ⟨g, 0, none⟩ ∧ g ∈ F ∧ ∀ i (h : i < L.length), (∃ f, (∀ b ∈ f, b ∈ F) ∧ I w B L[i] f) ∧ ∀ j u, (c L[i])[j]? = some u → w.cell? ⟨g, 0 + i * z + j, none⟩ = some u) := by
  obtain ⟨G, h0, h1, rfl⟩ := h
  rcases h0.2 with ⟨rfl, hn⟩ | ⟨g, cap, cur, rfl, hg, hh, rest⟩
  · exact ⟨none, 0, by rw [hn], fun h => by omega⟩
  · refine ⟨some ⟨g, 0, none⟩, cap, rfl, fun _ => ⟨g, rfl, by simp [X.blkL, Value.ownBlock], fun i hi => ⟨?_, fun j u hu => ?_⟩⟩⟩
    · obtain ⟨f, hf, h2⟩ := h1.get hi
      exact ⟨f, fun b hb => List.mem_append.2 (.inr (hf b hb)), h2⟩
    · have hj : j < z := by
        rcases Nat.lt_or_ge j z with h | h
        · exact h
        · rw [List.getElem?_eq_none (by rw [hc]; exact h)] at hu; cases hu
      have hcell := h0.cells (g := g) rfl (i * z + j) u (by rw [flat_get hc L hi j hj]; exact hu)
      have e : (⟨g, 0, none⟩ : Addr).add (i * z + j) = ⟨g, 0 + i * z + j, none⟩ := by unfold Addr.add; split <;> simp_all
      rw [← e]; exact hcell
/-- The cells of an item, stored one behind the other. -/
def setCs (w : World) (g o : Nat) : List Value → World
  | [] => w
  | v :: vs => setCs (w.setCell ⟨g, o, none⟩ v) g (o + 1) vs
def setsL (xs : List Value) (o : Nat) : List Value → List Value
  | [] => xs
  | v :: vs => setsL (xs.set o v) (o + 1) vs
theorem setCs_block {b g : Nat} (hb : b ≠ g) : ∀ (vs : List Value) (w : World) (o : Nat), (setCs w g o vs).heap[b]? = w.heap[b]?
  | [], _, _ => rfl
  | _ :: vs, _, _ => (setCs_block hb vs _ _).trans (heap_setCell_other _ _ _ _ hb)
theorem setCs_below {B g : Nat} {w : World} (hg : B ≤ g) : ∀ (vs : List Value) {w' : World} (o : Nat), Below B w w' → Below B w (setCs w' g o vs)
  | [], _, _, h => h
  | _ :: vs, _, o, h => setCs_below hg vs (o + 1) (h.setCell (p := ⟨g, _, none⟩) hg _)
theorem own_setCs {g n cap : Nat} : ∀ (vs : List Value) {w : World} {xs : List Value} (o : Nat), w.ownsRow B e z (.slice (some ⟨g, 0, none⟩) n cap) n xs → (setCs w g o vs).ownsRow B e z (.slice (some ⟨g, 0, none⟩) n cap) n (setsL xs o vs)
  | [], _, _, _, h => h
  | v :: vs, _, _, o, h => own_setCs vs (o + 1) (World.ownsRow.stored h o v).1
theorem setsL_mid : ∀ (ys pre xs rest : List Value), xs.length = ys.length → setsL (pre ++ (xs ++ rest)) pre.length ys = pre ++ (ys ++ rest)
  | [], pre, xs, rest, h => by rw [List.eq_nil_of_length_eq_zero (l := xs) (by simpa using h)]; rfl
  | y :: ys, pre, x :: xs, rest, h => by
    have ih := setsL_mid ys (pre ++ [y]) xs rest (by simpa using h)
    simp only [List.length_append, List.length_cons, List.length_nil, Nat.zero_add, List.append_assoc, List.cons_append, List.nil_append] at ih
    simp only [setsL, List.cons_append]
    rw [List.set_append_right _ _ (Nat.le_refl _), Nat.sub_self, List.set_cons_zero, ih]
  | _ :: _, _, [], _, h => by simp at h
theorem sets_flat (hc : ∀ a, (c a).length = z) (L : List α) {j : Nat} (hj : j < L.length) (y : α) : setsL (L.flatMap c) (j * z) (c y) = (L.set j y).flatMap c := by
  have e : L = L.take j ++ (L[j] :: L.drop (j + 1)) := by rw [List.getElem_cons_drop, List.take_append_drop]
  have e2 : L.set j y = L.take j ++ (y :: L.drop (j + 1)) := by
    conv => lhs; rw [e]
    rw [List.set_append_right _ _ (by simp; omega)]
    have : j - (L.take j).length = 0 := by simp; omega
    rw [this]; rfl
  have hp : ((L.take j).flatMap c).length = j * z := by rw [flat_len hc, List.length_take, Nat.min_eq_left (by omega)]
  have := setsL_mid (c y) ((L.take j).flatMap c) (c L[j]) ((L.drop (j + 1)).flatMap c) (by rw [hc, hc])
  rw [hp] at this
  rw [e2]
  conv => lhs; rw [e]
  simp only [List.flatMap_append, List.flatMap_cons]
  exact this
theorem made_flat (hc : ∀ a, (c a).length = z) (h0 : 0 < z) (a : α) (cs : Array Value) (hcs : c a = cs.toList) (n : Nat) : (madeCells cs (n * z)).toList = (List.replicate n a).flatMap c := by
  have hz : cs.size = z := by rw [← hc a, hcs]; simp
  have hl : ((List.replicate n a).flatMap c).length = n * z := by rw [flat_len hc]; simp
  apply List.ext_getElem?
  intro j
  by_cases hj : j < n * z
  · obtain ⟨i, q, hi, hq, rfl⟩ : ∃ i q, i < n ∧ q < z ∧ j = i * z + q := ⟨j / z, j % z, by rw [Nat.div_lt_iff_lt_mul h0]; exact hj, Nat.mod_lt _ h0, by rw [Nat.mul_comm, Nat.div_add_mod]⟩
    rw [flat_get hc _ (by simpa using hi) q hq]
    have e : (i * z + q) % z = q := by rw [Nat.mul_comm, Nat.mul_add_mod, Nat.mod_eq_of_lt hq]
    simp only [madeCells, List.getElem_replicate, Array.toList_map, Array.toList_range, List.getElem?_map, List.getElem?_range hj, Option.map_some, hz, e, hcs]
    rw [Array.getElem?_toList]
    simp [hz, hq]
  · rw [List.getElem?_eq_none (by simp [madeCells]; omega), List.getElem?_eq_none (by omega)]
theorem fill_next (L : List α) (n : Nat) {j : Nat} (hj : j < n) (hl : L.length = j) (a y : α) : (L ++ List.replicate (n - j) a).set j y = (L ++ [y]) ++ List.replicate (n - (j + 1)) a := by
  subst hl
  rw [List.set_append_right _ _ (Nat.le_refl _), List.append_assoc]
  congr 1
  have e : n - L.length = (n - (L.length + 1)) + 1 := by omega
  rw [e, List.replicate_succ, Nat.sub_self]
  rfl
theorem own_at {g n cap : Nat} {xs : List Value} (h : w.ownsRow B e z (.slice (some ⟨g, 0, none⟩) n cap) n xs) {k : Nat} (hk : k < n * z) : (∃ u, w.cell? ⟨g, k, none⟩ = some u) ∧ w.frozen? ⟨g, k, none⟩ = false := by
  have hl := h.1
  refine ⟨?_, h.frozenAt _⟩
  rw [World.ownsRow.cellAt h k hk]
  exact ⟨_, List.getElem?_eq_getElem (by omega)⟩
end
theorem SBuf.keepL {w w' : World} {B : Nat} {s : Value} {l : List ByteArray} (h : SBuf w B s l) (hk : ∀ b ∈ X.blkL s, w'.heap[b]? = w.heap[b]?) : SBuf w' B s l := own_keepL h hk
theorem SBuf.ltL {w : World} {B : Nat} {s : Value} {l : List ByteArray} (h : SBuf w B s l) : ∀ b ∈ X.blkL s, B ≤ b ∧ b < w.heap.size := blkL_own h
theorem SBuf.srL {w : World} {B : Nat} {Q : Nat → Prop} {s : Value} {l : List ByteArray} (h : SBuf w B s l) (hQ : ∀ b ∈ X.blkL s, Q b) : Sr w Q s l := by
  have hlt := World.ownsRow.lt h
  rcases h.2 with ⟨rfl, h0⟩ | ⟨g, cap, cur, rfl, hg, _, hnc, _⟩
  · exact ⟨none, 0, by rw [h0], by omega, fun hl => by omega⟩
  · refine ⟨_, _, rfl, hnc, fun _ => ⟨g, 0, rfl, hQ g (by simp [X.blkL, Value.ownBlock]), fun i hi => ?_⟩⟩
    have := World.ownsRow.cells h (g := g) rfl i _ (textsV_get l i hi)
    have e : (⟨g, 0, none⟩ : Addr).add i = ⟨g, 0 + i, none⟩ := by unfold Addr.add; split <;> simp_all
    rw [← e]; exact this
/-- A record type with the slice of its fields, as cells. -/
def cR (a : Rt × Value) : List Value := [.string a.1.t, a.2, .int .i64 a.1.l]
theorem cR_len (a : Rt × Value) : (cR a).length = 3 := rfl
def iR : Hold (Rt × Value) := fun w B a f => SBuf w B a.2 a.1.f ∧ f = X.blkL a.2
theorem iR_law : IL iR := ⟨fun h hk => ⟨h.1.keepL (by rw [← h.2]; exact hk), h.2⟩, fun h => by rw [h.2]; exact h.1.ltL, fun hB h => ⟨h.1.mono hB, h.2⟩⟩
theorem OkG.rts {e : TypeId} {w : World} {B : Nat} {L : List (Rt × Value)} {s : Value} {F : List Nat} {Q : Nat → Prop} (h : OkG iR e 3 cR w B L s F) (hQ : ∀ b ∈ F, Q b) : Rts w Q (L.map Prod.fst) s := by
  obtain ⟨A, cap, rfl, hh⟩ := h.read cR_len
  refine ⟨A, cap, by rw [List.length_map], fun h0 => ?_⟩
  rw [List.length_map] at h0
  obtain ⟨g, rfl, hg, hc⟩ := hh h0
  refine ⟨g, 0, rfl, hQ g hg, fun i hi => ?_⟩
  rw [List.length_map] at hi
  obtain ⟨⟨f, hf, h1, rfl⟩, h2⟩ := hc i hi
  simp only [List.getElem_map]
  exact ⟨L[i].2, h1.srL fun b hb => hQ b (hf b hb), h2 0 _ rfl, h2 1 _ rfl, h2 2 _ rfl⟩
/-- Record types of the call's own at s. -/
def ORs (e : TypeId) (w : World) (B : Nat) (r : List Rt) (s : Value) (F : List Nat) : Prop := ∃ L : List (Rt × Value), L.map Prod.fst = r ∧ OkG iR e 3 cR w B L s F
/-- A procedure with its slices, as cells. -/
def cP (a : Pd × Value × Value × Value) : List Value := [.string a.1.t, a.2.1, a.2.2.1, .int .i64 a.1.x.k, .string a.1.x.t, .int .i64 a.1.x.n, .int .i64 a.1.x.l, a.2.2.2, .int .i64 a.1.l]
theorem cP_len (a : Pd × Value × Value × Value) : (cP a).length = 9 := rfl
def iP : Hold (Pd × Value × Value × Value) := fun w B a f => ∃ F3, SBuf w B a.2.1 a.1.p ∧ SBuf w B a.2.2.1 a.1.q ∧ X.Ok w B a.1.x.r a.2.2.2 F3 ∧ f = X.blkL a.2.1 ++ (X.blkL a.2.2.1 ++ F3)
theorem iP_law : IL iP := by
  refine ⟨fun ⟨F3, h1, h2, h3, hf⟩ hk => ?_, fun ⟨F3, h1, h2, h3, hf⟩ b hb => ?_, fun hB ⟨F3, h1, h2, h3, hf⟩ => ⟨F3, h1.mono hB, h2.mono hB, h3.mono hB, hf⟩⟩
  · subst hf
    exact ⟨F3, h1.keepL fun b hb => hk b (List.mem_append.2 (.inl hb)), h2.keepL fun b hb => hk b (List.mem_append.2 (.inr (List.mem_append.2 (.inl hb)))), h3.keep fun b hb => hk b (List.mem_append.2 (.inr (List.mem_append.2 (.inr hb)))), rfl⟩
  · subst hf
    rcases List.mem_append.1 hb with hb | hb
    · exact h1.ltL b hb
    · rcases List.mem_append.1 hb with hb | hb
      · exact h2.ltL b hb
      · exact h3.lt b hb
/-- Kids read with their capacities, and without. -/
def K2 : KP := fun w P r s => X.Kc w P r s ∧ X.Kd w P r s
theorem OkG.pds {e : TypeId} {w : World} {B : Nat} {L : List (Pd × Value × Value × Value)} {s : Value} {F : List Nat} {Q : Nat → Prop} (h : OkG iP e 9 cP w B L s F) (hQ : ∀ b ∈ F, Q b) : Pds K2 w Q (L.map Prod.fst) s := by
  obtain ⟨A, cap, rfl, hh⟩ := h.read cP_len
  refine ⟨A, cap, by rw [List.length_map], fun h0 => ?_⟩
  rw [List.length_map] at h0
  obtain ⟨g, rfl, hg, hc⟩ := hh h0
  refine ⟨g, 0, rfl, hQ g hg, fun i hi => ?_⟩
  rw [List.length_map] at hi
  obtain ⟨⟨f, hf, F3, h1, h2, h3, rfl⟩, h4⟩ := hc i hi
  have q1 : ∀ b ∈ X.blkL L[i].2.1, Q b := fun b hb => hQ b (hf b (List.mem_append.2 (.inl hb)))
  have q2 : ∀ b ∈ X.blkL L[i].2.2.1, Q b := fun b hb => hQ b (hf b (List.mem_append.2 (.inr (List.mem_append.2 (.inl hb)))))
  have q3 : ∀ b ∈ F3, Q b := fun b hb => hQ b (hf b (List.mem_append.2 (.inr (List.mem_append.2 (.inr hb)))))
  simp only [List.getElem_map]
  exact ⟨L[i].2.1, L[i].2.2.1, L[i].2.2.2, h1.srL q1, h2.srL q2, ⟨h3.kc q3, h3.kd q3⟩, h4 0 _ rfl, h4 1 _ rfl, h4 2 _ rfl, h4 3 _ rfl, h4 4 _ rfl, h4 5 _ rfl, h4 6 _ rfl, h4 7 _ rfl, h4 8 _ rfl⟩
/-- Procedures of the call's own at s. -/
def OPs (e : TypeId) (w : World) (B : Nat) (p : List Pd) (s : Value) (F : List Nat) : Prop := ∃ L : List (Pd × Value × Value × Value), L.map Prod.fst = p ∧ OkG iP e 9 cP w B L s F
/-- A unit of the call's own: at three slices, in the blocks F. -/
def OUn (eR eP : TypeId) (w : World) (B : Nat) (u : Un) (s1 s2 s3 : Value) (F : List Nat) : Prop :=
  ∃ F1 F3, ORs eR w B u.r s1 F1 ∧ SBuf w B s2 u.g ∧ OPs eP w B u.p s3 F3 ∧ F = F1 ++ (X.blkL s2 ++ F3)
section
variable {eR eP : TypeId} {w w' : World} {B : Nat} {u : Un} {s1 s2 s3 : Value} {F : List Nat}
theorem ORs.keep {r : List Rt} {s : Value} (h : ORs eR w B r s F) (hk : ∀ b ∈ F, w'.heap[b]? = w.heap[b]?) : ORs eR w' B r s F := by
  obtain ⟨L, e, h⟩ := h; exact ⟨L, e, h.keep iR_law hk⟩
theorem OPs.keep {r : List Pd} {s : Value} (h : OPs eP w B r s F) (hk : ∀ b ∈ F, w'.heap[b]? = w.heap[b]?) : OPs eP w' B r s F := by
  obtain ⟨L, e, h⟩ := h; exact ⟨L, e, h.keep iP_law hk⟩
theorem ORs.lt {r : List Rt} {s : Value} (h : ORs eR w B r s F) : ∀ b ∈ F, B ≤ b ∧ b < w.heap.size := by
  obtain ⟨L, e, h⟩ := h; exact h.lt iR_law
theorem OPs.lt {r : List Pd} {s : Value} (h : OPs eP w B r s F) : ∀ b ∈ F, B ≤ b ∧ b < w.heap.size := by
  obtain ⟨L, e, h⟩ := h; exact h.lt iP_law
theorem ORs.mono {B' : Nat} {r : List Rt} {s : Value} (h : ORs eR w B r s F) (hB : B' ≤ B) : ORs eR w B' r s F := by
  obtain ⟨L, e, h⟩ := h; exact ⟨L, e, h.mono iR_law hB⟩
theorem OPs.mono {B' : Nat} {r : List Pd} {s : Value} (h : OPs eP w B r s F) (hB : B' ≤ B) : OPs eP w B' r s F := by
  obtain ⟨L, e, h⟩ := h; exact ⟨L, e, h.mono iP_law hB⟩
theorem ORs.form {r : List Rt} {s : Value} (h : ORs eR w B r s F) : ∃ A cap, s = .slice A r.length cap := by
  obtain ⟨L, rfl, h⟩ := h
  obtain ⟨A, cap, e⟩ := h.form
  exact ⟨A, cap, by rw [List.length_map]; exact e⟩
theorem OPs.form {r : List Pd} {s : Value} (h : OPs eP w B r s F) : ∃ A cap, s = .slice A r.length cap := by
  obtain ⟨L, rfl, h⟩ := h
  obtain ⟨A, cap, e⟩ := h.form
  exact ⟨A, cap, by rw [List.length_map]; exact e⟩
theorem ORs.rts {Q : Nat → Prop} {r : List Rt} {s : Value} (h : ORs eR w B r s F) (hQ : ∀ b ∈ F, Q b) : Rts w Q r s := by
  obtain ⟨L, rfl, h⟩ := h; exact h.rts hQ
theorem OPs.pds {Q : Nat → Prop} {r : List Pd} {s : Value} (h : OPs eP w B r s F) (hQ : ∀ b ∈ F, Q b) : Pds K2 w Q r s := by
  obtain ⟨L, rfl, h⟩ := h; exact h.pds hQ
theorem OUn.keep (h : OUn eR eP w B u s1 s2 s3 F) (hk : ∀ b ∈ F, w'.heap[b]? = w.heap[b]?) : OUn eR eP w' B u s1 s2 s3 F := by
  obtain ⟨F1, F3, h1, h2, h3, rfl⟩ := h
  exact ⟨F1, F3, h1.keep fun b hb => hk b (List.mem_append.2 (.inl hb)), h2.keepL fun b hb => hk b (List.mem_append.2 (.inr (List.mem_append.2 (.inl hb)))), h3.keep fun b hb => hk b (List.mem_append.2 (.inr (List.mem_append.2 (.inr hb)))), rfl⟩
theorem OUn.lt (h : OUn eR eP w B u s1 s2 s3 F) : ∀ b ∈ F, B ≤ b ∧ b < w.heap.size := by
  obtain ⟨F1, F3, h1, h2, h3, rfl⟩ := h
  intro b hb
  rcases List.mem_append.1 hb with hb | hb
  · exact h1.lt b hb
  · rcases List.mem_append.1 hb with hb | hb
    · exact h2.ltL b hb
    · exact h3.lt b hb
theorem OUn.kept (h : OUn eR eP w B u s1 s2 s3 F) (hb : Below w.heap.size w w') : OUn eR eP w' B u s1 s2 s3 F := h.keep fun b hf => hb.block b (h.lt b hf).2
theorem OUn.read {Q : Nat → Prop} (h : OUn eR eP w B u s1 s2 s3 F) (hQ : ∀ b ∈ F, Q b) : Urd K2 w Q u s1 s2 s3 := by
  obtain ⟨F1, F3, h1, h2, h3, rfl⟩ := h
  exact ⟨h1.rts fun b hb => hQ b (List.mem_append.2 (.inl hb)), h2.srL fun b hb => hQ b (List.mem_append.2 (.inr (List.mem_append.2 (.inl hb)))), h3.pds fun b hb => hQ b (List.mem_append.2 (.inr (List.mem_append.2 (.inr hb))))⟩
end
theorem Urd.kd {w : World} {P : Nat → Prop} {u : Un} {s1 s2 s3 : Value} (h : Urd K2 w P u s1 s2 s3) : Urd X.Kd w P u s1 s2 s3 :=
  ⟨h.1, h.2.1, h.2.2.keep (fun k => k.2) (fun _ _ => rfl) fun _ h => h⟩
theorem Urd.below2 {w w' : World} {P : Nat → Prop} {B : Nat} {u : Un} {s1 s2 s3 : Value} (h : Urd K2 w P u s1 s2 s3) (hb : Below B w w') (hP : ∀ b, P b → b < B) : Urd K2 w' P u s1 s2 s3 :=
  ⟨h.1.below hb hP, h.2.1.below hb hP, h.2.2.keep (fun k => ⟨k.1.below hb hP, k.2.below hb hP⟩) (fun _ hp => hb.cell (hP _ hp)) fun _ h => h⟩
theorem Urd.more {w : World} {P P' : Nat → Prop} {u : Un} {s1 s2 s3 : Value} (h : Urd K2 w P u s1 s2 s3) (hP : ∀ b, P b → P' b) : Urd K2 w P' u s1 s2 s3 :=
  ⟨h.1.keep (fun _ _ => rfl) hP, h.2.1.keep (fun _ _ => rfl) hP, h.2.2.keep (fun k => ⟨k.1.keep (fun _ _ => rfl) hP, k.2.keep (fun _ _ => rfl) hP⟩) (fun _ _ => rfl) hP⟩
end Go.Proofs.Ytljblaglfooclaa
