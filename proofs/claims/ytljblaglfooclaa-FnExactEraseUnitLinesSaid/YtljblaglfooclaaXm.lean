/- Proved here: how a tree of expressions lies in memory, read (Kd) and of a call's own (Ok); what of it lasts. No condition. -/
import Derived.Test.YtljblaglfooclaaXp
import Derived.Test.YtljblaglfooclaaBase
import Derived.Laws.MakeOwn
import Derived.Laws.OwnMore
namespace Go.Proofs.Ytljblaglfooclaa
open Go.RowKit
theorem ret_i {a b : Nat} (h : a = b) : Ending.returned (.int .i64 (a : Int)) = .returned (.int .i64 (b : Int)) := by rw [h]
theorem ret_b {a b : Bool} (h : a = b) : Ending.returned (.bool a) = .returned (.bool b) := by rw [h]
namespace X

/-- The five cells of a node whose kids' slice is s. -/
def cells5 (x : X) (s : Value) : List Value := [.int .i64 x.k, .string x.t, .int .i64 x.n, .int .i64 x.l, s]
/-- A node as a value. -/
def val (x : X) (s : Value) : Value := .agg #[.int .i64 x.k, .string x.t, .int .i64 x.n, .int .i64 x.l, s]
/-- The nodes r, with the slices S for kids, lie one behind the other from A on. -/
def RowAt (w : World) (P : Nat → Prop) (A : Option Addr) (r : List X) (S : List Value) : Prop :=
  0 < r.length → ∃ b o, A = some ⟨b, o, none⟩ ∧ P b ∧ ∀ i (h : i < r.length) s, S[i]? = some s → ∀ j u, (cells5 r[i] s)[j]? = some u → w.cell? ⟨b, o + i * 5 + j, none⟩ = some u
mutual
/-- The kids of x lie at the slice s, all of it in blocks that meet P. -/
def Rd (w : World) (P : Nat → Prop) : X → Value → Prop
  | .mk _ _ _ _ r, s => ∃ A cap S, s = .slice A r.length cap ∧ RowAt w P A r S ∧ RdL w P r S
def RdL (w : World) (P : Nat → Prop) : List X → List Value → Prop
  | [], S => S = []
  | x :: r, S => ∃ s S', S = s :: S' ∧ Rd w P x s ∧ RdL w P r S'
end
/-- The list of trees r lies at the slice s. -/
def Kd (w : World) (P : Nat → Prop) (r : List X) (s : Value) : Prop := ∃ A cap S, s = .slice A r.length cap ∧ RowAt w P A r S ∧ RdL w P r S
theorem Rd.kids {w : World} {P : Nat → Prop} {x : X} {s : Value} (h : Rd w P x s) : Kd w P x.r s := by cases x; unfold Rd at h; exact h
theorem Kd.rd {w : World} {P : Nat → Prop} {x : X} {s : Value} (h : Kd w P x.r s) : Rd w P x s := by cases x; unfold Rd; exact h
theorem RdL.get {w : World} {P : Nat → Prop} : ∀ {r : List X} {S : List Value}, RdL w P r S → ∀ {i : Nat} (h : i < r.length), ∃ s, S[i]? = some s ∧ Rd w P r[i] s
  | x :: r, _, ⟨s, S', rfl, h0, _⟩, 0, _ => ⟨s, rfl, h0⟩
  | x :: r, _, ⟨s, S', rfl, _, h1⟩, i + 1, h => by
    obtain ⟨s', e, hs⟩ := h1.get (i := i) (by simpa using h)
    exact ⟨s', by simpa using e, by simpa using hs⟩
theorem RdL.len {w : World} {P : Nat → Prop} : ∀ {r : List X} {S : List Value}, RdL w P r S → S.length = r.length
  | [], _, h => by simp only [RdL] at h; simp [h]
  | x :: r, _, ⟨s, S', rfl, _, h1⟩ => by simp [h1.len]
theorem RdL.of {w : World} {P : Nat → Prop} : ∀ {r : List X} {S : List Value}, S.length = r.length → (∀ i (h : i < r.length) s, S[i]? = some s → Rd w P r[i] s) → RdL w P r S
  | [], S, hl, _ => by simp only [RdL]; exact List.eq_nil_of_length_eq_zero hl
  | x :: r, s :: S, hl, h => ⟨s, S, rfl, h 0 (by simp) s (by simp), RdL.of (by simpa using hl) fun i hi s' hs' => h (i + 1) (by simpa using hi) s' (by simpa using hs')⟩
theorem RowAt.keep {w w' : World} {P P' : Nat → Prop} {A : Option Addr} {r : List X} {S : List Value} (h : RowAt w P A r S) (hk : ∀ p : Addr, P p.block → w'.cell? p = w.cell? p) (hP : ∀ b, P b → P' b) : RowAt w' P' A r S := by
  intro hr
  obtain ⟨b, o, e, hb, hc⟩ := h hr
  exact ⟨b, o, e, hP b hb, fun i hi s hs j u hu => (hk ⟨b, _, none⟩ hb).trans (hc i hi s hs j u hu)⟩
mutual
theorem Rd.keep {w w' : World} {P P' : Nat → Prop} (hk : ∀ p : Addr, P p.block → w'.cell? p = w.cell? p) (hP : ∀ b, P b → P' b) : ∀ {x : X} {s : Value}, Rd w P x s → Rd w' P' x s
  | .mk _ _ _ _ _, _, ⟨A, cap, S, e, h0, h1⟩ => ⟨A, cap, S, e, h0.keep hk hP, RdL.keep hk hP h1⟩
theorem RdL.keep {w w' : World} {P P' : Nat → Prop} (hk : ∀ p : Addr, P p.block → w'.cell? p = w.cell? p) (hP : ∀ b, P b → P' b) : ∀ {r : List X} {S : List Value}, RdL w P r S → RdL w' P' r S
  | [], _, h => h
  | _ :: _, _, ⟨s, S', e, h0, h1⟩ => ⟨s, S', e, Rd.keep hk hP h0, RdL.keep hk hP h1⟩
end
theorem Kd.keep {w w' : World} {P P' : Nat → Prop} {r : List X} {s : Value} (h : Kd w P r s) (hk : ∀ p : Addr, P p.block → w'.cell? p = w.cell? p) (hP : ∀ b, P b → P' b) : Kd w' P' r s := by
  obtain ⟨A, cap, S, e, h0, h1⟩ := h
  exact ⟨A, cap, S, e, h0.keep hk hP, RdL.keep hk hP h1⟩
/-- What lies below a block lasts while nothing below it turns. -/
theorem Kd.below {w w' : World} {P : Nat → Prop} {B : Nat} {r : List X} {s : Value} (h : Kd w P r s) (hb : Below B w w') (hP : ∀ b, P b → b < B) : Kd w' P r s :=
  h.keep (fun _ hp => hb.cell (hP _ hp)) (fun _ h => h)
theorem Rd.below {w w' : World} {P : Nat → Prop} {B : Nat} {x : X} {s : Value} (h : Rd w P x s) (hb : Below B w w') (hP : ∀ b, P b → b < B) : Rd w' P x s :=
  Rd.keep (fun _ hp => hb.cell (hP _ hp)) (fun _ h => h) h
/-- What a round reads: the kid's cells, and its own kids. -/
theorem Kd.at_ {w : World} {P : Nat → Prop} {r : List X} {A : Option Addr} {n cap : Nat} (h : Kd w P r (.slice A n cap)) {i : Nat} (hi : i < r.length) :
    ∃ b o s, A = some ⟨b, o, none⟩ ∧ P b ∧ Kd w P r[i].r s ∧ w.cell? ⟨b, o + i * 5, none⟩ = some (.int .i64 r[i].k) ∧ w.cell? ⟨b, o + i * 5 + 1, none⟩ = some (.string r[i].t) ∧
      w.cell? ⟨b, o + i * 5 + 2, none⟩ = some (.int .i64 r[i].n) ∧ w.cell? ⟨b, o + i * 5 + 3, none⟩ = some (.int .i64 r[i].l) ∧ w.cell? ⟨b, o + i * 5 + 4, none⟩ = some s := by
  obtain ⟨A', cap', S, e, h0, h1⟩ := h
  simp only [Value.slice.injEq] at e
  obtain ⟨rfl, _, rfl⟩ := e
  obtain ⟨s, es, hs⟩ := h1.get hi
  obtain ⟨b, o, rfl, hb, hc⟩ := h0 (by omega)
  have hc := hc i hi s es
  exact ⟨b, o, s, rfl, hb, hs.kids, hc 0 _ rfl, hc 1 _ rfl, hc 2 _ rfl, hc 3 _ rfl, hc 4 _ rfl⟩
theorem Kd.form {w : World} {P : Nat → Prop} {r : List X} {s : Value} (h : Kd w P r s) : ∃ A cap, s = .slice A r.length cap := by
  obtain ⟨A, cap, S, e, _, _⟩ := h
  exact ⟨A, cap, e⟩

/-- The cells of a node that a variable holds. -/
def Var (w : World) (g : Nat) (k : Int) (t : ByteArray) (n l : Int) (s : Value) : Prop := w.cell? ⟨g, 0, none⟩ = some (.int .i64 k) ∧ w.cell? ⟨g, 1, none⟩ = some (.string t) ∧ w.cell? ⟨g, 2, none⟩ = some (.int .i64 n) ∧ w.cell? ⟨g, 3, none⟩ = some (.int .i64 l) ∧ w.cell? ⟨g, 4, none⟩ = some s
section
variable {w w' : World} {g : Nat} {k : Int} {t : ByteArray} {n l : Int} {s : Value}
theorem Var.below {B : Nat} (h : Var w g k t n l s) (hb : Below B w w') (hg : g < B) : Var w' g k t n l s :=
  ⟨(hb.cell hg).trans h.1, (hb.cell hg).trans h.2.1, (hb.cell hg).trans h.2.2.1, (hb.cell hg).trans h.2.2.2.1, (hb.cell hg).trans h.2.2.2.2⟩
theorem Var.lt (h : Var w g k t n l s) : g < w.heap.size := World.block_lt_of_cell? _ _ h.1
theorem Var.kept (h : Var w g k t n l s) (hb : Below w.heap.size w w') : Var w' g k t n l s := h.below hb h.lt
theorem Var.drew (h : Var w g k t n l s) : Var w.drew g k t n l s := h
theorem Var.alloc (h : Var w g k t n l s) (o : Obj) : Var (w.alloc o) g k t n l s := h.kept ((Below.refl _ _).alloc (Nat.le_refl _) _)
theorem Var.new (w : World) (k : Int) (t : ByteArray) (n l : Int) (s : Value) (T : TypeId) : Var (w.alloc (.cells #[.int .i64 k, .string t, .int .i64 n, .int .i64 l, s] T)) w.heap.size k t n l s :=
  ⟨by go_simp, by go_simp, by go_simp, by go_simp, by go_simp⟩
theorem Var.far (h : Var w g k t n l s) {p : Addr} (hp : p.block ≠ g) (u : Value) : Var (w.setCell p u) g k t n l s := by
  have hc : ∀ o, (w.setCell p u).cell? ⟨g, o, none⟩ = w.cell? ⟨g, o, none⟩ := fun o => World.cell?_setCell_other w p ⟨g, o, none⟩ u (fun e => hp (congrArg Addr.block e))
  exact ⟨(hc 0).trans h.1, (hc 1).trans h.2.1, (hc 2).trans h.2.2.1, (hc 3).trans h.2.2.2.1, (hc 4).trans h.2.2.2.2⟩
theorem Var.grown {row : Option Nat} (h : Var w g k t n l s) (hg : w.grownBy w' row) (hne : some g ≠ row) : Var w' g k t n l s :=
  ⟨hg.cell h.1 hne, hg.cell h.2.1 hne, hg.cell h.2.2.1 hne, hg.cell h.2.2.2.1 hne, hg.cell h.2.2.2.2 hne⟩
theorem keep5 (h : Var w' g k t n l s) : w'.cell? ⟨g, 0, none⟩ = some (.int .i64 k) ∧ w'.cell? ⟨g, 1, none⟩ = some (.string t) ∧ w'.cell? ⟨g, 2, none⟩ = some (.int .i64 n) ∧ w'.cell? ⟨g, 3, none⟩ = some (.int .i64 l) ∧ w'.cell? ⟨g, 4, none⟩ = some s := h
end
/-- The block of a slice, as a list. -/
def blkL (s : Value) : List Nat := s.ownBlock.toList
/-- The cells of a row of nodes. -/
def rowV : List X → List Value → List Value
  | x :: r, s :: S => cells5 x s ++ rowV r S
  | _, _ => []
theorem rowV_length : ∀ {r : List X} {S : List Value}, S.length = r.length → (rowV r S).length = r.length * 5
  | [], S, h => by cases S <;> simp_all [rowV]
  | x :: r, s :: S, h => by simp [rowV, cells5, rowV_length (r := r) (S := S) (by simpa using h)]; omega
theorem rowV_get : ∀ {r : List X} {S : List Value} {i : Nat} (h : i < r.length) {s : Value}, S[i]? = some s → ∀ j, j < 5 → (rowV r S)[i * 5 + j]? = (cells5 r[i] s)[j]?
  | x :: r, s :: S, 0, _, s', hs, j, hj => by
    simp at hs; subst hs
    simp only [rowV, Nat.zero_mul, Nat.zero_add, List.getElem_cons_zero]
    rw [List.getElem?_append_left (by simpa [cells5] using hj)]
  | x :: r, s :: S, i + 1, h, s', hs, j, hj => by
    have := rowV_get (r := r) (S := S) (i := i) (by simpa using h) (by simpa using hs) j hj
    simp only [rowV, List.getElem_cons_succ]
    rw [List.getElem?_append_right (by simp [cells5]; omega), ← this]
    congr 1
    simp [cells5]; omega
  | x :: r, [], i, _, s', hs, _, _ => by simp at hs
theorem rowV_append : ∀ {r : List X} {S : List Value} (r' : List X) (S' : List Value), S.length = r.length → rowV (r ++ r') (S ++ S') = rowV r S ++ rowV r' S'
  | [], [], r', S', _ => rfl
  | x :: r, s :: S, r', S', h => by simp [rowV, rowV_append (r := r) (S := S) r' S' (by simpa using h)]
theorem ownsRow_below {w w' : World} {B B' : Nat} {e : TypeId} {size : Nat} {v : Value} {n : Nat} {xs : List Value} (h : w.ownsRow B e size v n xs) (hb : Below B' w w') (hB : ∀ k, v.ownBlock = some k → k < B') : w'.ownsRow B e size v n xs := by
  refine ⟨h.1, ?_⟩
  rcases h.2 with h0 | ⟨g, cap, cur, rfl, hg, hh, r⟩
  · exact .inl h0
  · exact .inr ⟨g, cap, cur, rfl, hg, (hb.block g (hB g rfl)).trans hh, r⟩
theorem own_cells5 {w : World} {B g n cap : Nat} {e : TypeId} {xs : List Value} (h : w.ownsRow B e 5 (.slice (some ⟨g, 0, none⟩) n cap) n xs) {j : Nat} (hj : j < n) :
    (∃ u0 u1 u2 u3 u4, w.cell? ⟨g, j * 5, none⟩ = some u0 ∧ w.cell? ⟨g, j * 5 + 1, none⟩ = some u1 ∧ w.cell? ⟨g, j * 5 + 2, none⟩ = some u2 ∧ w.cell? ⟨g, j * 5 + 3, none⟩ = some u3 ∧ w.cell? ⟨g, j * 5 + 4, none⟩ = some u4) ∧
    w.frozen? ⟨g, j * 5, none⟩ = false ∧ w.frozen? ⟨g, j * 5 + 1, none⟩ = false ∧ w.frozen? ⟨g, j * 5 + 2, none⟩ = false ∧ w.frozen? ⟨g, j * 5 + 3, none⟩ = false ∧ w.frozen? ⟨g, j * 5 + 4, none⟩ = false := by
  have hl := h.1
  have hc : ∀ c, c < 5 → ∃ u, w.cell? ⟨g, j * 5 + c, none⟩ = some u := fun c hc => by
    rw [World.ownsRow.cellAt h (j * 5 + c) (by omega)]
    exact ⟨_, List.getElem?_eq_getElem (by omega)⟩
  obtain ⟨u0, h0⟩ := hc 0 (by omega)
  obtain ⟨u1, h1⟩ := hc 1 (by omega)
  obtain ⟨u2, h2⟩ := hc 2 (by omega)
  obtain ⟨u3, h3⟩ := hc 3 (by omega)
  obtain ⟨u4, h4⟩ := hc 4 (by omega)
  exact ⟨⟨u0, u1, u2, u3, u4, h0, h1, h2, h3, h4⟩, h.frozenAt _, h.frozenAt _, h.frozenAt _, h.frozenAt _, h.frozenAt _⟩
mutual
/-- The kids of x lie at the slice s, in blocks F of the call's own, from B on, each of them used once. -/
def Ow (w : World) (B : Nat) : X → Value → List Nat → Prop
  | .mk _ _ _ _ r, s, F => ∃ S G, w.ownsRow B 44 5 s r.length (rowV r S) ∧ OwL w B r S G ∧ F = blkL s ++ G
def OwL (w : World) (B : Nat) : List X → List Value → List Nat → Prop
  | [], S, F => S = [] ∧ F = []
  | x :: r, S, F => ∃ s S' f F', S = s :: S' ∧ F = f ++ F' ∧ Ow w B x s f ∧ OwL w B r S' F'
end
def Ok (w : World) (B : Nat) (r : List X) (s : Value) (F : List Nat) : Prop := ∃ S G, w.ownsRow B 44 5 s r.length (rowV r S) ∧ OwL w B r S G ∧ F = blkL s ++ G
theorem Ow.kids {w : World} {B : Nat} {x : X} {s : Value} {F : List Nat} (h : Ow w B x s F) : Ok w B x.r s F := by cases x; unfold Ow at h; exact h
theorem Ok.ow {w : World} {B : Nat} {x : X} {s : Value} {F : List Nat} (h : Ok w B x.r s F) : Ow w B x s F := by cases x; unfold Ow; exact h
theorem OwL.len {w : World} {B : Nat} : ∀ {r : List X} {S : List Value} {F : List Nat}, OwL w B r S F → S.length = r.length
  | [], _, _, h => by simp only [OwL] at h; simp [h.1]
  | x :: r, _, _, ⟨s, S', f, F', rfl, _, _, h1⟩ => by simp [h1.len]
mutual
theorem Ow.keep {w w' : World} {B : Nat} : ∀ {x : X} {s : Value} {F : List Nat}, Ow w B x s F → (∀ b ∈ F, w'.heap[b]? = w.heap[b]?) → Ow w' B x s F
  | .mk _ _ _ _ r, s, _, ⟨S, G, h0, h1, rfl⟩, hk => by
    refine ⟨S, G, ⟨h0.1, ?_⟩, OwL.keep h1 fun b hb => hk b (List.mem_append.2 (.inr hb)), rfl⟩
    rcases h0.2 with h | ⟨g, cap, cur, rfl, hg, hh, rest⟩
    · exact .inl h
    · exact .inr ⟨g, cap, cur, rfl, hg, (hk g (by simp [blkL, Value.ownBlock])).trans hh, rest⟩
theorem OwL.keep {w w' : World} {B : Nat} : ∀ {r : List X} {S : List Value} {F : List Nat}, OwL w B r S F → (∀ b ∈ F, w'.heap[b]? = w.heap[b]?) → OwL w' B r S F
  | [], _, _, h, _ => h
  | _ :: _, _, _, ⟨s, S', f, F', e, rfl, h0, h1⟩, hk => ⟨s, S', f, F', e, rfl, Ow.keep h0 fun b hb => hk b (List.mem_append.2 (.inl hb)), OwL.keep h1 fun b hb => hk b (List.mem_append.2 (.inr hb))⟩
end
mutual
theorem Ow.lt {w : World} {B : Nat} : ∀ {x : X} {s : Value} {F : List Nat}, Ow w B x s F → ∀ b ∈ F, B ≤ b ∧ b < w.heap.size
  | .mk _ _ _ _ r, s, _, ⟨S, G, h0, h1, rfl⟩, b, hb => by
    rcases List.mem_append.1 hb with hb | hb
    · exact h0.lt b (by simpa [blkL] using hb)
    · exact OwL.lt h1 b hb
theorem OwL.lt {w : World} {B : Nat} : ∀ {r : List X} {S : List Value} {F : List Nat}, OwL w B r S F → ∀ b ∈ F, B ≤ b ∧ b < w.heap.size
  | [], _, _, h, b, hb => by simp only [OwL] at h; simp [h.2] at hb
  | _ :: _, _, _, ⟨s, S', f, F', e, rfl, h0, h1⟩, b, hb => by
    rcases List.mem_append.1 hb with hb | hb
    · exact Ow.lt h0 b hb
    · exact OwL.lt h1 b hb
end
mutual
theorem Ow.mono {w : World} {B B' : Nat} (hB : B' ≤ B) : ∀ {x : X} {s : Value} {F : List Nat}, Ow w B x s F → Ow w B' x s F
  | .mk _ _ _ _ r, s, _, ⟨S, G, h0, h1, rfl⟩ => by
    refine ⟨S, G, ⟨h0.1, ?_⟩, OwL.mono hB h1, rfl⟩
    rcases h0.2 with h | ⟨g, cap, cur, rfl, hg, rest⟩
    · exact .inl h
    · exact .inr ⟨g, cap, cur, rfl, Nat.le_trans hB hg, rest⟩
theorem OwL.mono {w : World} {B B' : Nat} (hB : B' ≤ B) : ∀ {r : List X} {S : List Value} {F : List Nat}, OwL w B r S F → OwL w B' r S F
  | [], _, _, h => h
  | _ :: _, _, _, ⟨s, S', f, F', e, rfl, h0, h1⟩ => ⟨s, S', f, F', e, rfl, Ow.mono hB h0, OwL.mono hB h1⟩
end
theorem OwL.append {w : World} {B : Nat} : ∀ {r : List X} {S : List Value} {F : List Nat}, OwL w B r S F → ∀ {r' : List X} {S' : List Value} {F' : List Nat}, OwL w B r' S' F' → OwL w B (r ++ r') (S ++ S') (F ++ F')
  | [], _, _, h, r', S', F', h' => by obtain ⟨rfl, rfl⟩ := h; simpa using h'
  | _ :: _, _, _, ⟨s, S', f, F', rfl, rfl, h0, h1⟩, _, _, _, h' => ⟨s, _, f, _, rfl, by rw [List.append_assoc], h0, OwL.append h1 h'⟩
theorem OwL.one {w : World} {B : Nat} {x : X} {s : Value} {F : List Nat} (h : Ow w B x s F) : OwL w B [x] [s] F := ⟨s, [], F, [], rfl, by simp, h, rfl, rfl⟩
mutual
theorem Ow.rd {w : World} {B : Nat} {Q : Nat → Prop} : ∀ {x : X} {s : Value} {F : List Nat}, Ow w B x s F → (∀ b ∈ F, Q b) → Rd w Q x s
  | .mk _ _ _ _ r, s, _, ⟨S, G, h0, h1, rfl⟩, hQ => by
    have hl := h1.len
    have h2 := OwL.rdl h1 fun b hb => hQ b (List.mem_append.2 (.inr hb))
    rcases h0.2 with ⟨rfl, h⟩ | ⟨g, cap, cur, rfl, hg, hh, rest⟩
    · exact ⟨none, 0, S, by rw [h], fun hr => by omega, h2⟩
    · refine ⟨some ⟨g, 0, none⟩, cap, S, rfl, fun hr => ⟨g, 0, rfl, hQ g (by simp [blkL, Value.ownBlock]), fun i hi s hs j u hu => ?_⟩, h2⟩
      have hj : j < 5 := by
        rcases Nat.lt_or_ge j 5 with h | h
        · exact h
        · rw [List.getElem?_eq_none (by simpa [cells5] using h)] at hu; cases hu
      have hc := h0.cells (g := g) rfl (i * 5 + j) u (by rw [rowV_get hi hs j hj]; exact hu)
      have e : (⟨g, 0, none⟩ : Addr).add (i * 5 + j) = ⟨g, 0 + i * 5 + j, none⟩ := by unfold Addr.add; split <;> simp_all
      rw [← e]; exact hc
theorem OwL.rdl {w : World} {B : Nat} {Q : Nat → Prop} : ∀ {r : List X} {S : List Value} {F : List Nat}, OwL w B r S F → (∀ b ∈ F, Q b) → RdL w Q r S
  | [], _, _, h, _ => h.1
  | _ :: _, _, _, ⟨s, S', f, F', e, rfl, h0, h1⟩, hQ => ⟨s, S', e, Ow.rd h0 fun b hb => hQ b (List.mem_append.2 (.inl hb)), OwL.rdl h1 fun b hb => hQ b (List.mem_append.2 (.inr hb))⟩
end
theorem Ok.kd {w : World} {B : Nat} {Q : Nat → Prop} {r : List X} {s : Value} {F : List Nat} (h : Ok w B r s F) (hQ : ∀ b ∈ F, Q b) : Kd w Q r s :=
  (Ow.rd (x := .mk 0 ⟨#[]⟩ 0 0 r) h hQ).kids
theorem Ok.form {w : World} {B : Nat} {r : List X} {s : Value} {F : List Nat} (h : Ok w B r s F) : ∃ A cap, s = .slice A r.length cap := by
  obtain ⟨S, G, h0, _, _⟩ := h
  rcases h0.2 with ⟨rfl, h⟩ | ⟨g, cap, cur, rfl, _⟩
  · exact ⟨none, 0, by rw [h]⟩
  · exact ⟨_, _, rfl⟩
theorem Ok.keep {w w' : World} {B : Nat} {r : List X} {s : Value} {F : List Nat} (h : Ok w B r s F) (hk : ∀ b ∈ F, w'.heap[b]? = w.heap[b]?) : Ok w' B r s F :=
  Ow.keep (x := .mk 0 ⟨#[]⟩ 0 0 r) h hk
theorem Ok.lt {w : World} {B : Nat} {r : List X} {s : Value} {F : List Nat} (h : Ok w B r s F) : ∀ b ∈ F, B ≤ b ∧ b < w.heap.size :=
  Ow.lt (x := .mk 0 ⟨#[]⟩ 0 0 r) h
theorem Ok.mono {w : World} {B B' : Nat} {r : List X} {s : Value} {F : List Nat} (h : Ok w B r s F) (hB : B' ≤ B) : Ok w B' r s F :=
  Ow.mono (x := .mk 0 ⟨#[]⟩ 0 0 r) hB h
theorem Ok.below {w w' : World} {B C : Nat} {r : List X} {s : Value} {F : List Nat} (h : Ok w B r s F) (hb : Below C w w') (hC : ∀ b ∈ F, b < C) : Ok w' B r s F :=
  h.keep fun b hf => hb.block b (hC b hf)
theorem Ok.kept {w w' : World} {B : Nat} {r : List X} {s : Value} {F : List Nat} (h : Ok w B r s F) (hb : Below w.heap.size w w') : Ok w' B r s F :=
  h.below hb fun b hf => (h.lt b hf).2
end X
end Go.Proofs.Ytljblaglfooclaa
