/- Proved here: what the reference's draws give: some number, text or set of the kind that is named; only the cursor's own block has turned. Condition: the code's bytes can be read. Proved here: more of the reference's draws: picks out of written-out lists, whole numbers, words, indexes, sets. Condition: the cursor lies in a block of its own. -/
import Derived.Test.YtanmkeoieckebaaDoorSs
import Derived.Test.YtanmkeoieckebaaDoorGr
import Derived.Test.YtanmkeoieckebaaDoorTx
namespace Go.Proofs.YtanmkeoieckebaaDoor
open Go.RowKit

/-- A cursor in block g. -/
def CurAt (w : World) (g : Nat) (A : Option Addr) (n cap : Nat) (i h : Int) : Prop :=
  Blk w g 131 #[.slice A n cap, .int .i64 i, .int .i64 h] ∧ (0 ≤ i ∧ i ≤ 4398046511104) ∧ n ≤ 4398046511104 ∧
  (0 < n → ∃ b o, A = some ⟨b, o, none⟩ ∧ b < g ∧ ∀ k, k < n → ∃ x : UInt8, w.cell? ⟨b, o + k, none⟩ = some (.int .u8 (x.toNat : Int)))
def Cur (w : World) (g : Nat) : Prop := ∃ A n cap i h, CurAt w g A n cap i h
theorem bits255 (a : Int) : ∃ x : Nat, x ≤ 255 ∧ bits .and .i64 a 255 = (x : Int) := by
  refine ⟨(BitVec.ofInt 64 a &&& 255#64).toNat, ?_, ?_⟩
  · rw [BitVec.toNat_and]; exact Nat.and_le_right
  · show IntKind.i64.wrap ((BitVec.ofInt 64 a &&& BitVec.ofInt 64 255).toNat : Int) = _
    have h : (BitVec.ofInt 64 a &&& BitVec.ofInt 64 255).toNat ≤ 255 := by rw [BitVec.toNat_and]; exact Nat.and_le_right
    rw [IntWalk.i64_in _ (by omega)]; rfl
/-- Some byte. -/
def ByteP (g : Nat) (w : World) (e : Ending) (w' : World) : Prop := ∃ x : Nat, x ≤ 255 ∧ e = .returned (.int .i64 (x : Int)) ∧ Cur w' g ∧ w.grownBy w' (some g)
theorem byteP_of {g : Nat} {w w' : World} (Y : Int) (hc : Cur w' g) (hg : w.grownBy w' (some g)) : ByteP g w (.returned (.int .i64 (bits .and .i64 Y 255))) w' := by
  obtain ⟨x, hx, e⟩ := bits255 Y
  exact ⟨x, hx, by rw [e], hc, hg⟩
/-- The cursor when only its block, and what is new, has turned. -/
theorem CurAt.next {w w' : World} {g : Nat} {A : Option Addr} {n cap : Nat} {i h i' h' : Int} (hc : CurAt w g A n cap i h) (hg : w.grownBy w' (some g)) (hB : Blk w' g 131 #[.slice A n cap, .int .i64 i', .int .i64 h']) (hi : 0 ≤ i' ∧ i' ≤ 4398046511104) : Cur w' g := by
  refine ⟨A, n, cap, i', h', hB, hi, hc.2.2.1, fun hn => ?_⟩
  obtain ⟨b, o, e, hbg, hcell⟩ := hc.2.2.2 hn
  refine ⟨b, o, e, hbg, fun k hk => ?_⟩
  obtain ⟨x, hx⟩ := hcell k hk
  exact ⟨x, hg.cell hx (by simp; omega)⟩
theorem Cur.kept {w w' : World} {g : Nat} (hc : Cur w g) (hb : Below w.heap.size w w') : Cur w' g := by
  obtain ⟨A, n, cap, i, h, hc⟩ := hc
  exact hc.next ⟨hb.os, hb.tape, hb.output, hb.size, fun k hk _ => hb.block k hk⟩ (hc.1.kept hb) hc.2.1
theorem Cur.lt {w : World} {g : Nat} (hc : Cur w g) : g < w.heap.size := by
  obtain ⟨A, n, cap, i, h, hc⟩ := hc
  exact hc.1.lt
set_option maxRecDepth 20000 in
set_option maxHeartbeats 4000000 in
theorem l1Byte (g : Nat) (w : World) (hc : Cur w g) : Calls Tryd.prog 114 #[.pointer (some ⟨g, 0, none⟩)] w (ByteP g w) := by
  obtain ⟨A, n, cap, i, h, hC⟩ := hc
  obtain ⟨hB, hi, hn, hA⟩ := id hC
  have c0 := hB.cell 0
  have c1 := hB.cell 1
  have c2 := hB.cell 2
  have f0 := hB.frozen 0
  have f1 := hB.frozen 1
  have f2 := hB.frozen 2
  simp at c0 c1 c2
  obtain ⟨k, rfl⟩ : ∃ k : Nat, i = (k : Int) := ⟨i.toNat, by omega⟩
  by_cases hlt : k < n
  · obtain ⟨b, o, rfl, hbg, hcell⟩ := hA (by omega)
    obtain ⟨x, hx⟩ := hcell k hlt
    have hbg' : b ≠ g := by omega
    have hxb := byte_bd x
    have i0 : (k : Int) < (n : Int) := by omega
    have i1 : IntKind.i64.wrap ((k : Int) + 1) = (k : Int) + 1 := IntWalk.i64_in _ (by omega)
    go_enter Tryd.func114, Tryd.ntmps114
    go_wp2_with fail
    go_quiet (fail)
    go_wp2_with fail
    go_quiet (fail)
    go_wp2_with fail
    go_quiet (fail)
    go_wp2_with fail
    go_ret
    refine byteP_of _ (CurAt.next (i' := (k : Int) + 1) (h' := wrap64 (wrap64 (h * 6364136223846793005) + 1442695040888963407)) hC ?_ ?_ (by omega)) ?_
    · repeat (first | exact only_refl _ _ | refine only_set ?_ _ _ | refine only_drewN ?_ _ | refine only_alloc ?_ _)
    · simpa using ((hB.set_ 2 (.int .i64 (wrap64 (wrap64 (h * 6364136223846793005) + 1442695040888963407)))).drewN _).set_ 1 (.int .i64 ((k : Int) + 1))
    · repeat (first | exact only_refl _ _ | refine only_set ?_ _ _ | refine only_drewN ?_ _ | refine only_alloc ?_ _)
  · have b0 : decide ((k : Int) < (n : Int)) = false := by simp; omega
    have hkn : n ≤ k := by omega
    go_enter Tryd.func114, Tryd.ntmps114
    go_wp2_with fail
    go_quiet (fail)
    go_wp2_with fail
    go_quiet (fail)
    go_wp2_with fail
    go_ret
    refine byteP_of _ (CurAt.next (i' := (k : Int)) (h' := wrap64 (wrap64 (h * 6364136223846793005) + 1442695040888963407)) hC ?_ ?_ (by omega)) ?_
    · repeat (first | exact only_refl _ _ | refine only_set ?_ _ _ | refine only_drewN ?_ _ | refine only_alloc ?_ _)
    · simpa using (hB.set_ 2 (.int .i64 (wrap64 (wrap64 (h * 6364136223846793005) + 1442695040888963407)))).drewN _
    · repeat (first | exact only_refl _ _ | refine only_set ?_ _ _ | refine only_drewN ?_ _ | refine only_alloc ?_ _)
/-- The code's bytes can be read. -/
def CodeAt (w : World) (A : Option Addr) (n : Nat) : Prop := n ≤ 1048576 ∧ (0 < n → ∃ b o, A = some ⟨b, o, none⟩ ∧ b < w.heap.size ∧ ∀ k, k < n → ∃ x : UInt8, w.cell? ⟨b, o + k, none⟩ = some (.int .u8 (x.toNat : Int)))
def NewP (w : World) (e : Ending) (w' : World) : Prop := ∃ g, e = .returned (.pointer (some ⟨g, 0, none⟩)) ∧ w.heap.size ≤ g ∧ Cur w' g ∧ Below w.heap.size w w'
theorem newP_of {A : Option Addr} {n : Nat} {w : World} (cap : Nat) (h : Int) (hc : CodeAt w A n) : NewP w (.returned (.pointer (some ⟨w.heap.size, 0, none⟩))) (w.alloc (.cells #[.slice A n cap, .int .i64 0, .int .i64 h] 131)) := by
  refine ⟨w.heap.size, rfl, Nat.le_refl _, ⟨A, n, cap, 0, h, Blk.new _ _ _, by omega, by have := hc.1; omega, fun hn => ?_⟩, (Below.refl _ _).alloc (Nat.le_refl _) _⟩
  obtain ⟨b, o, e, hb, hcell⟩ := hc.2 hn
  refine ⟨b, o, e, hb, fun k hk => ?_⟩
  obtain ⟨x, hx⟩ := hcell k hk
  exact ⟨x, (World.cell?_alloc_lt w _ _ hb).trans hx⟩
set_option maxRecDepth 20000 in
set_option maxHeartbeats 4000000 in
theorem l1New (A : Option Addr) (n cap : Nat) (w : World) (hc : CodeAt w A n) : Calls Tryd.prog 63 #[.slice A n cap] w (NewP w) := by
  have HN := fun h => newP_of cap h hc
  have HNN := Lib.hid HN
  clear HN
  obtain ⟨hn, hA⟩ := hc
  go_enter Tryd.func63, Tryd.ntmps63
  go_wp2_with fail
  go_loop [3, 4] (fun a i => ∃ (j : Nat) (h : Int), i = .int .i64 j ∧ a = .int .i64 h ∧ j ≤ n)
    (fun _ i => n - (intOf i).toNat)
  case atStart => exact ⟨0, _, rfl, rfl, by omega⟩
  case round =>
    obtain ⟨j, h, rfl, rfl, hj⟩ := hrel
    by_cases hlt : j < n ∧ j < 4000
    · obtain ⟨h1, h2⟩ := hlt
      obtain ⟨b, o, rfl, hb, hcell⟩ := hA (by omega)
      obtain ⟨x, hx⟩ := hcell j h1
      have hxb := byte_bd x
      have i0 : (j : Int) < (n : Int) := by omega
      have i1 : (j : Int) < 4000 := by omega
      go_wp2_with fail
      go_round
      case rel => exact ⟨j + 1, _, by go_num, rfl, by omega⟩
      case measure => simp [intOf]; omega
    · have HC := Lib.hid hA
      clear hA
      by_cases h1 : j < n
      · have h2 : 4000 ≤ j := by omega
        clear hlt
        go_wp2_with fail
        go_ret
        exact HNN.out _
      · have h2 : n ≤ j := by omega
        clear hlt
        go_wp2_with fail
        go_ret
        exact HNN.out _
/-- Some number below n. -/
def BelowP (n g : Nat) (w : World) (e : Ending) (w' : World) : Prop := ∃ x : Nat, x < n ∧ e = .returned (.int .i64 (x : Int)) ∧ Cur w' g ∧ w.grownBy w' (some g)
theorem belowP_of {n g x : Nat} {w w' : World} (hn : 0 < n) (hc : Cur w' g) (hg : w.grownBy w' (some g)) : BelowP n g w (.returned (.int .i64 ((x : Int) % (n : Int)))) w' := by
  refine ⟨x % n, Nat.mod_lt _ hn, ?_, hc, hg⟩
  rw [Int.natCast_emod]
set_option maxHeartbeats 4000000 in
theorem l1Below (n : Nat) (hn : 0 < n) (hm : n ≤ 1099511627776) (g : Nat) (w : World) (hc : Cur w g) : Calls Tryd.prog 68 #[.pointer (some ⟨g, 0, none⟩), .int .i64 (n : Int)] w (BelowP n g w) := by
  have b0 : decide ((n : Int) ≤ 0) = false := by simp; omega
  by_cases h : n ≤ 256
  · go_enter Tryd.func68, Tryd.ntmps68
    go_wp2_with (go_at_call 114; refine (l1Byte g _ hc).mono ?_; rintro e w1 ⟨x, hx, rfl, hc1, hg1⟩)
    go_ret
    exact belowP_of hn hc1 hg1
  · have h' : 256 < n := by omega
    clear h
    go_enter Tryd.func68, Tryd.ntmps68
    go_upto_region 6 with (go_at_call 114; refine (l1Byte g _ hc).mono ?_; rintro e w1 ⟨x1, hx1, rfl, hc1, hg1⟩)
    go_upto_region 7 with (go_at_call 114; refine (l1Byte g _ hc1).mono ?_; rintro e w2 ⟨x2, hx2, rfl, hc2, hg2⟩)
    go_upto_region 8 with (go_at_call 114; refine (l1Byte g _ hc2).mono ?_; rintro e w3 ⟨x3, hx3, rfl, hc3, hg3⟩)
    go_upto_region 9 with (go_at_call 114; refine (l1Byte g _ hc3).mono ?_; rintro e w4 ⟨x4, hx4, rfl, hc4, hg4⟩)
    go_wp2_with fail
    go_ret
    exact belowP_of (x := x1 * 16777216 + x2 * 65536 + x3 * 256 + x4) hn hc4 (only_trans hg1 (only_trans hg2 (only_trans hg3 hg4)))
def OnceP (g : Nat) (w : World) (e : Ending) (w' : World) : Prop := ∃ b : Bool, e = .returned (.bool b) ∧ Cur w' g ∧ w.grownBy w' (some g)
theorem l1Once (n : Nat) (hn : 0 < n) (hm : n ≤ 1099511627776) (g : Nat) (w : World) (hc : Cur w g) : Calls Tryd.prog 66 #[.pointer (some ⟨g, 0, none⟩), .int .i64 (n : Int)] w (OnceP g w) := by
  go_enter Tryd.func66, Tryd.ntmps66
  go_wp2_with (go_at_call 68; refine (l1Below n hn hm g _ hc).mono ?_; rintro e w1 ⟨x, hx, rfl, hc1, hg1⟩)
  go_ret
  exact ⟨_, rfl, hc1, hg1⟩
/-- Some text that meets Q. -/
def TextP (Q : ByteArray → Prop) (g : Nat) (w : World) (e : Ending) (w' : World) : Prop := ∃ t, Q t ∧ e = .returned (.string t) ∧ Cur w' g ∧ w.grownBy w' (some g)
set_option maxHeartbeats 4000000 in
theorem l1Pick (l : List ByteArray) (s : Value) (P : Nat → Prop) (Q : ByteArray → Prop) (g : Nat) (w : World) (hc : Cur w g) (hK : Sr w P s l) (hP : ∀ b, P b → b ≠ g) (h0 : 0 < l.length) (hl : l.length ≤ 1048576) (hQ : ∀ t ∈ l, Q t) :
    Calls Tryd.prog 84 #[.pointer (some ⟨g, 0, none⟩), s] w (TextP Q g w) := by
  obtain ⟨A, cap, rfl⟩ := hK.form
  obtain ⟨b, o, rfl, hb, hcell⟩ := hK.row h0
  have hbg := hP b hb
  have HC := Lib.hid hcell
  clear hcell
  go_enter Tryd.func84, Tryd.ntmps84
  go_wp2_with (go_at_call 68; refine (l1Below l.length h0 (by omega) g _ hc).mono ?_; rintro e w1 ⟨x, hx, rfl, hc1, hg1⟩; have i0 : (x : Int) < (l.length : Int) := (by omega); have c0 := hg1.cell (HC.out x hx) (by simpa using hbg))
  go_ret
  exact ⟨_, hQ _ (List.getElem_mem hx), rfl, hc1, hg1⟩
section
open Go.ChangeShapes Go.WideShapes
theorem cells_u8 : Tryd.prog.cellsOf 5 = 1 := by kernel_rfl
variable {H : Type} {enc : TypeId × Value → H} {w : World} {spare : Nat → Bool} {held : Bool}
set_option maxRecDepth 20000 in
/-- The bytes that came in. -/
theorem open_code {r : Reach} {b0 : Nat} {v : Value} {d : DataW H} {p : List MemPlace} (hv : Value.okWide Tryd.prog w r b0 33 v) (h : DataW.Trod enc Tryd.prog w 0 spare held 33 v d p) :
    ∃ A n cap, v = .slice A n cap ∧ n ≤ maxLen ∧ (n ≤ 1048576 → CodeAt w A n) := by
  obtain ⟨a, len, cap, rfl⟩ := okWide_slice Tryd.underlying33 hv
  obtain ⟨fuel, hf⟩ := h
  rcases DataW.trod_slice Tryd.underlying33 hf with ⟨e, _⟩ | ⟨a', len', cap', elems, rest, n', _, e, _, _, hlc, hcm, hel, hat, _, _⟩
  · simp only [Value.cells, List.cons.injEq, and_true, Value.slice.injEq] at e
    obtain ⟨rfl, rfl, rfl⟩ : a = none ∧ len = 0 ∧ cap = 0 := by simpa using e
    exact ⟨none, 0, 0, rfl, by omega, fun _ => ⟨by omega, fun h => by omega⟩⟩
  · obtain ⟨rfl, rfl, rfl⟩ : a = some a' ∧ len = len' ∧ cap = cap' := by simpa [Value.cells] using e
    refine ⟨some a', len, cap, rfl, by omega, fun hn => ⟨hn, fun h0 => ?_⟩⟩
    have hcell : ∀ i, i < len → ∃ x : UInt8, w.cell? (a'.add i) = some (.int .u8 (x.toNat : Int)) := by
      intro i hi
      have h1 := hat i hi
      rw [List.getElem?_eq_getElem (by omega), cells_u8, Nat.mul_one] at h1
      cases hc : w.cells? 0 (a'.add i) 1 with
      | none => rw [hc] at h1; cases h1
      | some cs' =>
        rw [hc] at h1
        obtain ⟨z, rfl, _, wz⟩ := DataW.trod_int Tryd.underlying5 h1
        obtain ⟨_, _, hcell⟩ := World.cells?_some hc
        have hb := u8_bd wz
        have h2 := hcell 0 (by omega)
        have e : (a'.add i).add 0 = a'.add i := by simp [Addr.add]
        rw [e] at h2
        refine ⟨UInt8.ofNat z.toNat, ?_⟩
        rw [h2]
        simp
        omega
    obtain ⟨x0, hc0⟩ := hcell 0 h0
    have hsp : a'.spot = none := by simpa [Addr.add] using World.cell?_spot hc0
    obtain ⟨b, o, sp⟩ := a'
    simp only at hsp
    subst hsp
    refine ⟨b, o, rfl, ?_, fun k hk => ?_⟩
    · have := World.block_lt_of_cell? _ _ hc0
      simpa [Addr.add] using this
    · obtain ⟨x, hx⟩ := hcell k hk
      have e : (⟨b, o, none⟩ : Addr).add k = ⟨b, o + k, none⟩ := by unfold Addr.add; split <;> simp_all
      exact ⟨x, by rw [← e]; exact hx⟩
end
end Go.Proofs.YtanmkeoieckebaaDoor

namespace Go.Proofs.YtanmkeoieckebaaDoor
open Go.RowKit

/-- All values of a list are texts that meet f. -/
def allT (f : ByteArray → Bool) (cs : List Value) : Bool := cs.all fun v => match v with | .string t => f t | _ => false
def allI (f : Int → Bool) (cs : List Value) : Bool := cs.all fun v => match v with | .int .i64 z => f z | _ => false
theorem allT_get {f : ByteArray → Bool} {cs : Array Value} (h : allT f cs.toList = true) {i : Nat} (hi : i < cs.size) : ∃ t, cs[i]? = some (.string t) ∧ f t = true := by
  have h1 := List.all_eq_true.1 h cs[i] (by simp)
  have e : cs[i]? = some cs[i] := Array.getElem?_eq_getElem hi
  revert h1 e
  generalize cs[i] = v
  intro h1 e
  cases v with
  | string t => exact ⟨_, e, h1⟩
  | _ => exact absurd h1 (by simp)
theorem allI_get {f : Int → Bool} {cs : Array Value} (h : allI f cs.toList = true) {i : Nat} (hi : i < cs.size) : ∃ z, cs[i]? = some (.int .i64 z) ∧ f z = true := by
  have h1 := List.all_eq_true.1 h cs[i] (by simp)
  have e : cs[i]? = some cs[i] := Array.getElem?_eq_getElem hi
  revert h1 e
  generalize cs[i] = v
  intro h1 e
  cases v with
  | int k z =>
    cases k with
    | i64 => exact ⟨_, e, h1⟩
    | _ => exact absurd h1 (by simp)
  | _ => exact absurd h1 (by simp)
set_option maxHeartbeats 4000000 in
/-- A pick out of a written-out list of texts. -/
theorem l1PickLit (f : ByteArray → Bool) {cs : Array Value} {n g G : Nat} {w : World} {T : TypeId} (hG : G = w.heap.size) (hc : Cur w g) (hall : allT f cs.toList = true) (hn : n = cs.size) (h0 : 0 < n) (hm : n ≤ 1000) :
    Calls Tryd.prog 84 #[.pointer (some ⟨g, 0, none⟩), .slice (some ⟨G, 0, none⟩) n n] (w.alloc (.cells cs T)) (TextP (fun t => f t = true) g (w.alloc (.cells cs T))) := by
  subst hG
  have hc' := hc.kept ((Below.refl _ _).alloc (Nat.le_refl _) (.cells cs T))
  have hgl := hc.lt
  have HC : Hid (∀ i, i < n → ∃ t, (w.alloc (.cells cs T)).cell? ⟨w.heap.size, i, none⟩ = some (.string t) ∧ f t = true) := Lib.hid fun i hi => by
    rw [World.cell?_alloc_at _ _ _ _ rfl]
    exact allT_get hall (by omega)
  generalize hW : w.alloc (.cells cs T) = W at hc' HC
  clear hall hW hn
  go_enter Tryd.func84, Tryd.ntmps84
  go_wp2_with (go_at_call 68; refine (l1Below n h0 (by omega) g _ hc').mono ?_; rintro e w1 ⟨x, hx, rfl, hc1, hg1⟩; have i0 : (x : Int) < (n : Int) := (by omega); obtain ⟨t, c, hft⟩ := HC.out x hx; have HF := Lib.hid hft; clear hft; have c0 := hg1.cell c (by simp; omega))
  go_ret
  exact ⟨_, HF.out, rfl, hc1, hg1⟩
def sz12 (t : ByteArray) : Bool := decide (t.size ≤ 12)
/-- A short word. -/
def W130 (t : ByteArray) : Prop := t.size ≤ 130
theorem textP_of {g : Nat} {w w' : World} {t : ByteArray} (ht : t.size ≤ 130) (hc : Cur w' g) (hg : w.grownBy w' (some g)) : TextP W130 g w (.returned (.string t)) w' := ⟨t, ht, rfl, hc, hg⟩
theorem rep_size (n : Nat) (x : UInt8) : (⟨Array.replicate n x⟩ : ByteArray).size = n := by
  show (Array.replicate n x).size = n
  simp
/-- Some whole number that meets Q. -/
def IntP (Q : Int → Prop) (g : Nat) (w : World) (e : Ending) (w' : World) : Prop := ∃ z, Q z ∧ e = .returned (.int .i64 z) ∧ Cur w' g ∧ w.grownBy w' (some g)
set_option maxHeartbeats 4000000 in
theorem l1PickIntLit (f : Int → Bool) {cs : Array Value} {n g G : Nat} {w : World} {T : TypeId} (hG : G = w.heap.size) (hc : Cur w g) (hall : allI f cs.toList = true) (hn : n = cs.size) (h0 : 0 < n) (hm : n ≤ 1000) :
    Calls Tryd.prog 130 #[.pointer (some ⟨g, 0, none⟩), .slice (some ⟨G, 0, none⟩) n n] (w.alloc (.cells cs T)) (IntP (fun z => f z = true) g (w.alloc (.cells cs T))) := by
  subst hG
  have hc' := hc.kept ((Below.refl _ _).alloc (Nat.le_refl _) (.cells cs T))
  have hgl := hc.lt
  have HC : Hid (∀ i, i < n → ∃ t, (w.alloc (.cells cs T)).cell? ⟨w.heap.size, i, none⟩ = some (.int .i64 t) ∧ f t = true) := Lib.hid fun i hi => by
    rw [World.cell?_alloc_at _ _ _ _ rfl]
    exact allI_get hall (by omega)
  generalize hW : w.alloc (.cells cs T) = W at hc' HC
  clear hall hW hn
  go_enter Tryd.func130, Tryd.ntmps130
  go_wp2_with (go_at_call 68; refine (l1Below n h0 (by omega) g _ hc').mono ?_; rintro e w1 ⟨x, hx, rfl, hc1, hg1⟩; have i0 : (x : Int) < (n : Int) := (by omega); obtain ⟨t, c, hft⟩ := HC.out x hx; have HF := Lib.hid hft; clear hft; have c0 := hg1.cell c (by simp; omega))
  go_ret
  exact ⟨_, HF.out, rfl, hc1, hg1⟩
/-- Whole numbers of 64 bits. -/
def I64 (z : Int) : Prop := -9223372036854775808 ≤ z ∧ z ≤ 9223372036854775807
theorem intP_of {g : Nat} {w w' : World} {z : Int} (hz : I64 z) (hc : Cur w' g) (hg : w.grownBy w' (some g)) : IntP I64 g w (.returned (.int .i64 z)) w' := ⟨z, hz, rfl, hc, hg⟩
def i64B (z : Int) : Bool := decide (-9223372036854775808 ≤ z) && decide (z ≤ 9223372036854775807)
theorem i64B_iff {z : Int} (h : i64B z = true) : I64 z := by simpa [i64B, I64] using h
set_option maxHeartbeats 4000000 in
theorem l1Whole (g : Nat) (w : World) (hc : Cur w g) : Calls Tryd.prog 163 #[.pointer (some ⟨g, 0, none⟩)] w (IntP I64 g w) := by
  go_enter Tryd.func163, Tryd.ntmps163
  go_upto_region 2 with (go_at_call 68; refine (l1Below 3 (by omega) (by omega) g _ hc).mono ?_; rintro e w1 ⟨x, hx, rfl, hc1, hg1⟩)
  by_cases h0 : x = 0
  · subst h0
    go_wp2_with (go_at_call 130; refine Calls.mono (l1PickIntLit i64B rfl hc1 (by decide) rfl (by omega) (by omega)) ?_; rintro e w2 ⟨z, hz, rfl, hc2, hg2⟩)
    go_ret
    exact intP_of (i64B_iff hz) hc2 (only_trans hg1 (only_trans (only_alloc (only_refl _ _) _) hg2))
  · have b0 : ((x : Int) == 0) = false := by rw [beq_eq_false_iff_ne]; omega
    by_cases h1 : x = 1
    · subst h1
      go_wp2_with (go_at_call 68; refine (l1Below 1000000 (by omega) (by omega) g _ hc1).mono ?_; rintro e w2 ⟨y, hy, rfl, hc2, hg2⟩)
      go_ret
      exact intP_of ⟨by omega, by omega⟩ hc2 (only_trans hg1 hg2)
    · have b1 : ((x : Int) == 1) = false := by rw [beq_eq_false_iff_ne]; omega
      clear h0 h1
      go_wp2_with (go_at_call 68; refine (l1Below 20 (by omega) (by omega) g _ hc1).mono ?_; rintro e w2 ⟨y, hy, rfl, hc2, hg2⟩)
      go_ret
      exact intP_of ⟨by omega, by omega⟩ hc2 (only_trans hg1 hg2)
end Go.Proofs.YtanmkeoieckebaaDoor
