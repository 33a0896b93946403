/- Proved here: the printed form of a tree, and that it is not long. The levels of operators and the form of a set are left open. No condition; nothing of the program is named. -/
import Derived.Test.YtljblaglfooclaaGreatDoorVaP
import Derived.Test.YtljblaglfooclaaGreatDoorPl
namespace Go.Proofs.YtljblaglfooclaaGreatDoor
namespace X

/-- A kid, as its printing sees it: its kind, its level, its own form. -/
abbrev Kp := Int × Nat × ByteArray
def atT (need : Nat) (q : Kp) : ByteArray := if q.2.1 < need then ⟨#[40]⟩ ++ q.2.2 ++ ⟨#[41]⟩ else q.2.2
def joT (by_ : List UInt8) (l : List ByteArray) : ByteArray := ⟨(Lib.join (l.map (·.data.toList)) by_).toArray⟩
def kd (K : List Kp) (i : Nat) : Kp := K.getD i (0, 0, ⟨#[]⟩)
/-- A word and the kids of a construct, each behind its word. -/
def woT (ws : List ByteArray) (K : List Kp) : Nat → ByteArray
  | 0 => ws.getD 0 ⟨#[]⟩
  | j + 1 => (if 0 < j then woT ws K j ++ ⟨#[32]⟩ ++ ws.getD j ⟨#[]⟩ else ws.getD 0 ⟨#[]⟩) ++ ⟨#[32]⟩ ++ atT 1 (kd K j)
/-- The pairs of a case. -/
def prT : List Kp → List ByteArray
  | a :: b :: r => (atT 1 a ++ ⟨#[32, 58, 32]⟩ ++ atT 1 b) :: prT r
  | _ => []
def caT (n : Int) (K : List Kp) : List ByteArray :=
  if n = 1 then prT (K.drop 1).dropLast ++ [⟨#[100, 101, 102, 97, 117, 108, 116, 32, 58, 32]⟩ ++ atT 1 (kd K (K.length - 1))] else prT (K.drop 1)
variable (lv : ByteArray → Nat) (cq : ByteArray → ByteArray)
/-- The level of a node. -/
def lvlT (k : Int) (t : ByteArray) : Nat := if k = 8 then lv t else if k = 9 then 4 else if k = 7 ∨ k = 27 then 12 else if (15 ≤ k ∧ k ≤ 22) ∨ k = 24 ∨ k = 26 then 0 else 13
def wIf : List ByteArray := [⟨#[105, 102]⟩, ⟨#[116, 104, 101, 110]⟩, ⟨#[101, 108, 115, 101]⟩]
def wDo (w : List UInt8) : List ByteArray := [⟨w.toArray⟩, ⟨#[100, 111]⟩]
/-- The words of a construct. -/
def wrdT (k : Int) : List ByteArray :=
  if k = 15 then [⟨#[105, 102]⟩, ⟨#[116, 104, 101, 110]⟩, ⟨#[101, 108, 115, 101]⟩] else if k = 16 then [⟨#[119, 104, 105, 108, 101]⟩, ⟨#[100, 111]⟩] else if k = 17 then [⟨#[117, 110, 116, 105, 108]⟩, ⟨#[100, 111]⟩]
  else if k = 18 then [⟨#[101, 118, 101, 114, 121]⟩, ⟨#[100, 111]⟩] else if k = 19 then [⟨#[114, 101, 112, 101, 97, 116]⟩] else if k = 21 then [⟨#[114, 101, 116, 117, 114, 110]⟩]
  else if k = 22 then [⟨#[115, 117, 115, 112, 101, 110, 100]⟩, ⟨#[100, 111]⟩] else if k = 24 then [⟨#[98, 114, 101, 97, 107]⟩] else [⟨#[99, 114, 101, 97, 116, 101]⟩]
/-- The form of a node, its kids given. -/
def noT (k : Int) (t : ByteArray) (n : Int) (K : List Kp) : ByteArray :=
  if k = 1 then ⟨(Lib.itoa n).toArray⟩ else if k = 2 then ⟨(quoteL 34 t.data.toList).toArray⟩ else if k = 3 then cq t else if k = 4 then t else if k = 5 then ⟨#[38]⟩ ++ t
  else if k = 6 then ⟨#[91]⟩ ++ joT [44, 32] (K.map (atT 0)) ++ ⟨#[93]⟩
  else if k = 7 then (if (kd K 0).1 = 7 then t ++ ⟨#[40]⟩ ++ (kd K 0).2.2 ++ ⟨#[41]⟩ else t ++ atT 12 (kd K 0))
  else if k = 8 then atT (if lv t = 3 ∨ lv t = 10 then lv t + 1 else lv t) (kd K 0) ++ ⟨#[32]⟩ ++ t ++ ⟨#[32]⟩ ++ atT (if lv t = 3 ∨ lv t = 10 then lv t else lv t + 1) (kd K 1)
  else if k = 9 then (if K.length = 3 then atT 4 (kd K 0) ++ ⟨#[32, 116, 111, 32]⟩ ++ atT 5 (kd K 1) ++ ⟨#[32, 98, 121, 32]⟩ ++ atT 5 (kd K 2) else atT 4 (kd K 0) ++ ⟨#[32, 116, 111, 32]⟩ ++ atT 5 (kd K 1))
  else if k = 10 then atT 13 (kd K 0) ++ ⟨#[40]⟩ ++ joT [44, 32] ((K.drop 1).map (atT 0)) ++ ⟨#[41]⟩
  else if k = 11 then atT 13 (kd K 0) ++ ⟨#[91]⟩ ++ atT 0 (kd K 1) ++ ⟨#[93]⟩
  else if k = 12 then atT 13 (kd K 0) ++ ⟨#[91]⟩ ++ atT 1 (kd K 1) ++ ⟨#[32, 58, 32]⟩ ++ atT 0 (kd K 2) ++ ⟨#[93]⟩
  else if k = 13 then atT 13 (kd K 0) ++ ⟨#[46]⟩ ++ t
  else if k = 14 then ⟨#[123]⟩ ++ joT [59, 32] (K.map (atT 0)) ++ ⟨#[125]⟩
  else if k = 20 then ⟨#[99, 97, 115, 101, 32]⟩ ++ atT 1 (kd K 0) ++ ⟨#[32, 111, 102, 32, 123]⟩ ++ joT [59, 32] (caT n K) ++ ⟨#[125]⟩
  else if k = 23 then ⟨#[102, 97, 105, 108]⟩ else if k = 25 then ⟨#[110, 101, 120, 116]⟩
  else if k = 27 then ⟨#[110, 111, 116, 32]⟩ ++ atT 12 (kd K 0)
  else if k = 28 then ⟨#[100, 101, 102, 101, 114, 32]⟩ ++ t
  else if k = 29 then ⟨#[40]⟩ ++ joT [44, 32] (K.map (atT 0)) ++ ⟨#[41]⟩
  else woT (wrdT k) K K.length
mutual
/-- The printed form of a tree. -/
def pN : X → ByteArray | .mk k t n _ r => noT lv cq k t n (pK r)
def pK : List X → List Kp | [] => [] | x :: r => (x.k, lvlT lv x.k x.t, pN x) :: pK r
end
theorem pK_length : ∀ r : List X, (pK lv cq r).length = r.length
  | [] => by simp [pK]
  | x :: r => by simp [pK, pK_length r]
theorem pK_get : ∀ (r : List X) {i : Nat} (h : i < r.length), kd (pK lv cq r) i = (r[i].k, lvlT lv r[i].k r[i].t, pN lv cq r[i])
  | x :: r, 0, _ => by simp [pK, kd]
  | x :: r, i + 1, h => by
    have := pK_get r (i := i) (by simpa using h)
    simp only [kd, pK, List.getD_cons_succ, List.getElem_cons_succ] at this ⊢
    exact this
theorem pK_drop : ∀ (r : List X) (i : Nat), (pK lv cq r).drop i = pK lv cq (r.drop i)
  | [], i => by simp [pK]
  | x :: r, 0 => rfl
  | x :: r, i + 1 => by simp only [pK, List.drop_succ_cons]; exact pK_drop r i

/-! ### how long -/
def sumK (K : List Kp) : Nat := (K.map fun q => q.2.2.size + 20).sum
theorem sumK_cons (q : Kp) (K : List Kp) : sumK (q :: K) = q.2.2.size + 20 + sumK K := by simp [sumK]
theorem kd_size : ∀ (K : List Kp) (i : Nat), i < K.length → (kd K i).2.2.size + 20 ≤ sumK K
  | q :: K, 0, _ => by rw [sumK_cons]; show q.2.2.size + 20 ≤ _; omega
  | q :: K, i + 1, h => by
    have := kd_size K i (by simpa using h)
    rw [sumK_cons]
    have e : kd (q :: K) (i + 1) = kd K i := by simp [kd]
    rw [e]; omega
theorem size1 (l : List UInt8) : (⟨l.toArray⟩ : ByteArray).size = l.length := by show l.toArray.size = _; simp
theorem li1 (a : UInt8) : (⟨#[a]⟩ : ByteArray).size = 1 := rfl
theorem li3 (a b c : UInt8) : (⟨#[a, b, c]⟩ : ByteArray).size = 3 := rfl
theorem li4 (a b c d : UInt8) : (⟨#[a, b, c, d]⟩ : ByteArray).size = 4 := rfl
theorem li5 (a b c d e : UInt8) : (⟨#[a, b, c, d, e]⟩ : ByteArray).size = 5 := rfl
theorem li6 (a b c d e f : UInt8) : (⟨#[a, b, c, d, e, f]⟩ : ByteArray).size = 6 := rfl
theorem lits : (∀ a : UInt8, (⟨#[a]⟩ : ByteArray).size = 1) ∧ (∀ a b c : UInt8, (⟨#[a, b, c]⟩ : ByteArray).size = 3) ∧ (∀ a b c d : UInt8, (⟨#[a, b, c, d]⟩ : ByteArray).size = 4) ∧ (∀ a b c d e : UInt8, (⟨#[a, b, c, d, e]⟩ : ByteArray).size = 5) ∧ (∀ a b c d e f : UInt8, (⟨#[a, b, c, d, e, f]⟩ : ByteArray).size = 6) := ⟨li1, li3, li4, li5, li6⟩
theorem atT_size (need : Nat) (q : Kp) : (atT need q).size ≤ q.2.2.size + 2 := by
  unfold atT
  split
  · rw [ByteArray.size_append, ByteArray.size_append]
    show 1 + q.2.2.size + 1 ≤ _
    omega
  · omega
theorem jo_size (by_ : List UInt8) : ∀ l : List ByteArray, (joT by_ l).size ≤ (l.map fun x => x.size + by_.length).sum
  | [] => by simp [joT, Lib.join_nil, size1]
  | [x] => by
    unfold joT
    rw [List.map_cons, List.map_nil, Lib.join_one, size1]
    simp
  | x :: y :: r => by
    have ih := jo_size by_ (y :: r)
    unfold joT at ih ⊢
    rw [List.map_cons, Lib.join_cons, size1] at ih
    rw [List.map_cons, List.map_cons, Lib.join_cons, size1]
    have e : Lib.joinTail by_ (y.data.toList :: r.map (·.data.toList)) = by_ ++ (y.data.toList ++ Lib.joinTail by_ (r.map (·.data.toList))) := by simp [Lib.joinTail]
    rw [e]
    have : x.data.toList.length = x.size := rfl
    simp only [List.map_cons, List.sum_cons, List.length_append] at ih ⊢
    omega
theorem map_size (need : Nat) (b : Nat) (hb : b ≤ 2) : ∀ K : List Kp, ((K.map (atT need)).map fun x => x.size + b).sum ≤ sumK K
  | [] => by simp
  | q :: K => by
    have := map_size need b hb K
    have := atT_size need q
    rw [sumK_cons]
    simp only [List.map_cons, List.sum_cons] at *
    omega
theorem sumK_drop : ∀ (K : List Kp) (i : Nat), sumK (K.drop i) ≤ sumK K
  | [], i => by simp
  | q :: K, 0 => Nat.le_refl _
  | q :: K, i + 1 => by rw [List.drop_succ_cons, sumK_cons]; have := sumK_drop K i; omega
theorem sumK_dropLast : ∀ K : List Kp, sumK K.dropLast ≤ sumK K
  | [] => by simp
  | [q] => by simp [sumK]
  | q :: p :: K => by
    have := sumK_dropLast (p :: K)
    rw [List.dropLast_cons_cons, sumK_cons, sumK_cons]; omega
theorem prT_size : ∀ K : List Kp, ((prT K).map fun x => x.size + 2).sum ≤ sumK K
  | [] => by simp [prT]
  | [q] => by simp [prT]
  | q :: p :: K => by
    have ih := prT_size K
    have h1 := atT_size 1 q
    have h2 := atT_size 1 p
    rw [sumK_cons, sumK_cons, prT, List.map_cons, List.sum_cons, ByteArray.size_append, ByteArray.size_append]
    have : (⟨#[32, 58, 32]⟩ : ByteArray).size = 3 := rfl
    omega
theorem woT_size (ws : List ByteArray) (hw : ∀ i, (ws.getD i ⟨#[]⟩).size ≤ 7) (K : List Kp) : ∀ j, j ≤ K.length → (woT ws K j).size ≤ 7 + sumK (K.take j)
  | 0, _ => by rw [woT]; have := hw 0; omega
  | j + 1, h => by
    have ih := woT_size ws hw K j (by omega)
    have h1 := atT_size 1 (kd K j)
    have h2 := hw j
    have h0 := hw 0
    have e : sumK (K.take (j + 1)) = sumK (K.take j) + ((kd K j).2.2.size + 20) := by
      rw [List.take_succ_eq_append_getElem (by omega)]
      unfold sumK kd
      rw [List.map_append, List.sum_append, List.getD_eq_getElem?_getD, List.getElem?_eq_getElem (by omega)]
      simp
    rw [e, woT, ByteArray.size_append, ByteArray.size_append]
    have e1 : (⟨#[32]⟩ : ByteArray).size = 1 := rfl
    split
    · rw [ByteArray.size_append, ByteArray.size_append]; omega
    · omega
theorem wrdT_size (k : Int) (i : Nat) : ((wrdT k).getD i ⟨#[]⟩).size ≤ 7 := by
  have key : ∀ l : List ByteArray, (∀ x ∈ l, x.size ≤ 7) → (l.getD i ⟨#[]⟩).size ≤ 7 := by
    intro l hl
    rw [List.getD_eq_getElem?_getD]
    cases h : l[i]? with
    | none => exact Nat.zero_le _
    | some x => exact hl x (List.mem_of_getElem? h)
  apply key
  unfold wrdT
  repeat' split
  all_goals decide
theorem sumK_append (K L : List Kp) : sumK (K ++ L) = sumK K + sumK L := by simp [sumK]
theorem last_kd : ∀ K : List Kp, 2 ≤ K.length → K.drop 1 = (K.drop 1).dropLast ++ [kd K (K.length - 1)] := by
  intro K h
  have hne : K.drop 1 ≠ [] := by
    intro e
    have := congrArg List.length e
    simp at this; omega
  have h1 := List.dropLast_concat_getLast hne
  rw [List.getLast_drop, List.getLast_eq_getElem] at h1
  have e : kd K (K.length - 1) = K[K.length - 1]'(by omega) := by
    unfold kd
    rw [List.getD_eq_getElem?_getD, List.getElem?_eq_getElem (by omega)]; rfl
  rw [e]; exact h1.symm
theorem caT_size (n : Int) (K : List Kp) (h : 2 ≤ K.length ∨ n ≠ 1) : ((caT n K).map fun x => x.size + 2).sum ≤ sumK (K.drop 1) := by
  have h1 := prT_size (K.drop 1)
  unfold caT
  split
  · have h2 := prT_size (K.drop 1).dropLast
    have h5 := atT_size 1 (kd K (K.length - 1))
    have e := last_kd K (by omega)
    have h6 : sumK (K.drop 1) = sumK (K.drop 1).dropLast + ((kd K (K.length - 1)).2.2.size + 20) := by
      conv => lhs; rw [e]
      rw [sumK_append]; simp [sumK]
    rw [List.map_append, List.sum_append, List.map_cons, List.map_nil, List.sum_cons, List.sum_nil, ByteArray.size_append]
    have e1 : (⟨#[100, 101, 102, 97, 117, 108, 116, 32, 58, 32]⟩ : ByteArray).size = 10 := rfl
    omega
  · omega
theorem sumK_first (K : List Kp) (h : 0 < K.length) : sumK K = (kd K 0).2.2.size + 20 + sumK (K.drop 1) := by
  cases K with
  | nil => simp at h
  | cons q K => rw [sumK_cons]; rfl
theorem itoa_size {n : Int} (h : -9223372036854775808 ≤ n ∧ n ≤ 9223372036854775807) : (Lib.itoa n).length ≤ 20 := by
  rcases Int.lt_or_le n 0 with hn | hn
  · obtain ⟨m, rfl⟩ : ∃ m : Nat, n = -(m : Int) := ⟨(-n).toNat, by omega⟩
    rw [itoa_neg (by omega), List.length_cons, Lib.decDigits_length]
    have := nDigits_le (k := 19) (u := m) (by omega) (by omega)
    omega
  · obtain ⟨m, rfl⟩ : ∃ m : Nat, n = (m : Int) := ⟨n.toNat, by omega⟩
    rw [itoa_pos, Lib.decDigits_length]
    have := nDigits_le (k := 19) (u := m) (by omega) (by omega)
    omega
/-- The form of a node is not long. -/
theorem noT_size {k : Int} {t : ByteArray} {n : Int} {K : List Kp} (hn : -9223372036854775808 ≤ n ∧ n ≤ 9223372036854775807) (ht : t.size ≤ 128) (hc : (cq t).size ≤ 520)
    (hk : (kidsR k).1 ≤ K.length) (h20 : k = 20 → 2 ≤ K.length ∨ n ≠ 1) : (noT lv cq k t n K).size ≤ 600 + sumK K := by
  have hz : t.data.toList.length = t.size := rfl
  have k0 : 0 < K.length → (kd K 0).2.2.size + 20 ≤ sumK K := kd_size K 0
  have d0 : 0 < K.length → sumK K = (kd K 0).2.2.size + 20 + sumK (K.drop 1) := sumK_first K
  have d1 : 1 < K.length → sumK (K.drop 1) = (kd K 1).2.2.size + 20 + sumK (K.drop 2) := fun h => by
    have := sumK_first (K.drop 1) (by simp; omega)
    rw [List.drop_drop] at this
    have e : kd (K.drop 1) 0 = kd K 1 := by simp [kd, List.getD_eq_getElem?_getD]
    rw [e] at this
    exact this
  have d2 : 2 < K.length → sumK (K.drop 2) = (kd K 2).2.2.size + 20 + sumK (K.drop 3) := fun h => by
    have := sumK_first (K.drop 2) (by simp; omega)
    rw [List.drop_drop] at this
    have e : kd (K.drop 2) 0 = kd K 2 := by simp [kd, List.getD_eq_getElem?_getD]
    rw [e] at this
    exact this
  have a := fun need => atT_size need (kd K 0)
  have b := fun need => atT_size need (kd K 1)
  have c := fun need => atT_size need (kd K 2)
  have jo : ∀ (x y : UInt8) (L : List Kp), (joT [x, y] (L.map (atT 0))).size ≤ sumK L := fun x y L => Nat.le_trans (jo_size _ _) (map_size 0 2 (by omega) L)
  unfold noT
  by_cases h : k = 1
  · rw [if_pos h, size1]; have := itoa_size hn; omega
  rw [if_neg h]; clear h
  by_cases h : k = 2
  · rw [if_pos h, size1]; have := quoteL_len 34 t.data.toList; omega
  rw [if_neg h]; clear h
  by_cases h : k = 3
  · rw [if_pos h]; omega
  rw [if_neg h]; clear h
  by_cases h : k = 4
  · rw [if_pos h]; omega
  rw [if_neg h]; clear h
  by_cases h : k = 5
  · rw [if_pos h, ByteArray.size_append, li1]; omega
  rw [if_neg h]; clear h
  by_cases h : k = 6
  · rw [if_pos h]; simp only [ByteArray.size_append, lits]; have := jo 44 32 K; omega
  rw [if_neg h]; clear h
  by_cases h : k = 7
  · rw [if_pos h]
    have hl : 0 < K.length := by subst h; exact hk
    have := k0 hl
    have := a 12
    split <;> (simp only [ByteArray.size_append, lits]; omega)
  rw [if_neg h]; clear h
  by_cases h : k = 8
  · rw [if_pos h]
    have hl : 2 ≤ K.length := by subst h; exact hk
    have := d0 (by omega)
    have := d1 (by omega)
    have := a (if lv t = 3 ∨ lv t = 10 then lv t + 1 else lv t)
    have := b (if lv t = 3 ∨ lv t = 10 then lv t else lv t + 1)
    simp only [ByteArray.size_append, lits]; omega
  rw [if_neg h]; clear h
  by_cases h : k = 9
  · rw [if_pos h]
    have hl : 2 ≤ K.length := by subst h; exact hk
    have := d0 (by omega)
    have := d1 (by omega)
    have := a 4
    have := b 5
    have := c 5
    split
    · have := d2 (by omega)
      simp only [ByteArray.size_append, lits]; omega
    · simp only [ByteArray.size_append, lits]; omega
  rw [if_neg h]; clear h
  by_cases h : k = 10
  · rw [if_pos h]
    have hl : 1 ≤ K.length := by subst h; exact hk
    have := d0 (by omega)
    have := a 13
    have := jo 44 32 (K.drop 1)
    simp only [ByteArray.size_append, lits]; omega
  rw [if_neg h]; clear h
  by_cases h : k = 11
  · rw [if_pos h]
    have hl : 2 ≤ K.length := by subst h; exact hk
    have := d0 (by omega)
    have := d1 (by omega)
    have := a 13
    have := b 0
    simp only [ByteArray.size_append, lits]; omega
  rw [if_neg h]; clear h
  by_cases h : k = 12
  · rw [if_pos h]
    have hl : 3 ≤ K.length := by subst h; exact hk
    have := d0 (by omega)
    have := d1 (by omega)
    have := d2 (by omega)
    have := a 13
    have := b 1
    have := c 0
    simp only [ByteArray.size_append, lits]; omega
  rw [if_neg h]; clear h
  by_cases h : k = 13
  · rw [if_pos h]
    have hl : 1 ≤ K.length := by subst h; exact hk
    have := k0 (by omega)
    have := a 13
    simp only [ByteArray.size_append, lits]; omega
  rw [if_neg h]; clear h
  by_cases h : k = 14
  · rw [if_pos h]; simp only [ByteArray.size_append, lits]; have := jo 59 32 K; omega
  rw [if_neg h]; clear h
  by_cases h : k = 20
  · rw [if_pos h]
    have hl : 1 ≤ K.length := by subst h; exact hk
    have := d0 (by omega)
    have := a 1
    have h1 := jo_size [59, 32] (caT n K)
    have h2 := caT_size n K (h20 h)
    have e : ([59, 32] : List UInt8).length = 2 := rfl
    rw [e] at h1
    simp only [ByteArray.size_append, lits]; omega
  rw [if_neg h]; clear h
  by_cases h : k = 23
  · rw [if_pos h, li4]; omega
  rw [if_neg h]; clear h
  by_cases h : k = 25
  · rw [if_pos h, li4]; omega
  rw [if_neg h]; clear h
  by_cases h : k = 27
  · rw [if_pos h]
    have hl : 1 ≤ K.length := by subst h; exact hk
    have := k0 (by omega)
    have := a 12
    simp only [ByteArray.size_append, lits]; omega
  rw [if_neg h]; clear h
  by_cases h : k = 28
  · rw [if_pos h]; simp only [ByteArray.size_append, lits]; omega
  rw [if_neg h]; clear h
  by_cases h : k = 29
  · rw [if_pos h]; simp only [ByteArray.size_append, lits]; have := jo 44 32 K; omega
  rw [if_neg h]
  have := woT_size (wrdT k) (wrdT_size k) K K.length (Nat.le_refl _)
  rw [List.take_length] at this
  omega
variable (W : Int → ByteArray → Bool)
theorem ok_parts {k : Int} {t : ByteArray} {n l : Int} {len : Nat} (h : okNode W k t n l len = true) : (1 ≤ k ∧ k ≤ 29 ∧ (kidsR k).1 ≤ len ∧ len ≤ (kidsR k).2 ∧ 0 ≤ l) ∧ W k t = true ∧ numOk k n len = true := by
  simp only [okNode, Bool.and_eq_true, decide_eq_true_eq] at h
  exact h
theorem num_parts {k n : Int} {len : Nat} (h : numOk k n len = true) : (0 ≤ n ∧ n ≤ 999999999999) ∧ (k = 20 → (n = 0 ∨ n = 1) ∧ 1 + n ≤ (len : Int) ∧ ((len : Int) - 1 - n) % 2 = 0) := by
  unfold numOk at h
  split at h
  · rename_i h1
    exact ⟨by simpa using h, fun e => by omega⟩
  · split at h
    · rename_i h2
      have h3 : (n = 0 ∨ n = 1) ∧ 1 + n ≤ (len : Int) ∧ ((len : Int) - 1 - n) % 2 = 0 := by simpa using h
      exact ⟨by omega, fun _ => h3⟩
    · rename_i h2
      have h3 : n = 0 := by simpa using h
      exact ⟨by omega, fun e => absurd e h2⟩
/-- The printed form of a valid tree is not long. -/
theorem pN_size (hW : ∀ k t, W k t = true → t.size ≤ 128 ∧ (cq t).size ≤ 520) (x : X) : vld W x = true → (pN lv cq x).size + 20 ≤ 620 * cnt x := by
  induction x using X.ind with
  | h k t n l r ih =>
    intro hv
    rw [vld, Bool.and_eq_true] at hv
    obtain ⟨⟨_, _, h3, _, _⟩, hw, hnum⟩ := ok_parts W hv.1
    obtain ⟨hn, h20⟩ := num_parts hnum
    obtain ⟨ht, hc⟩ := hW k t hw
    have hs : ∀ i, i ≤ r.length → sumK (pK lv cq (r.take i)) ≤ 620 * cntL (r.take i) := by
      intro i
      induction i with
      | zero => intro _; simp [pK, sumK]
      | succ i hi =>
        intro h
        have h1 := hi (by omega)
        have h2 := ih i h (vldL_get W r h hv.2)
        have e : pK lv cq (r.take (i + 1)) = pK lv cq (r.take i) ++ [(r[i].k, lvlT lv r[i].k r[i].t, pN lv cq r[i])] := by
          rw [take_more r h]
          generalize r.take i = a
          generalize r[i] = y
          clear h1 h2 ih hi h
          induction a with
          | nil => simp [pK]
          | cons b a iha => simp [pK, iha]
        rw [e, sumK_append, cntL_take r h]
        simp only [sumK, List.map_cons, List.map_nil, List.sum_cons, List.sum_nil] at h1 h2 ⊢
        omega
    have hs1 := hs r.length (Nat.le_refl _)
    rw [List.take_length] at hs1
    have := noT_size lv cq (K := pK lv cq r) (n := n) (t := t) (k := k) (by omega) ht hc (by rw [pK_length]; exact h3) (fun e => by
      have := h20 e
      rw [pK_length]; omega)
    rw [pN, cnt]
    omega
end X
end Go.Proofs.YtljblaglfooclaaGreatDoor
