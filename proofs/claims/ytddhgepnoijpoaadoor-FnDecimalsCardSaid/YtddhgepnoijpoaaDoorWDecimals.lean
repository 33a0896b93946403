/- Proved here: the walk of the law FnDecimals: the call returns true and leaves all older memory as it was. Condition: the arguments are of their types; the listed tables lie as listed. -/
import Derived.Test.YtddhgepnoijpoaaDoorDm
import Derived.Test.YtddhgepnoijpoaaDoorDmP
import Derived.Test.YtddhgepnoijpoaaDoorFm
import Derived.Test.YtddhgepnoijpoaaDoorPn
import Derived.Test.YtddhgepnoijpoaaDoorSp
import Derived.Test.YtddhgepnoijpoaaDoorJn
namespace Go.Proofs.YtddhgepnoijpoaaDoor.lDecimals
open Go.RowKit

theorem grow {w W w' : World} (h : Below w.heap.size w W) (h1 : Below W.heap.size W w') : Below w.heap.size w w' := h.trans (h1.mono h.size)
theorem codeKept {w W : World} {A : Option Addr} {n : Nat} (h : CodeAt w A n) (hb : Below w.heap.size w W) : CodeAt W A n := by
  refine ⟨h.1, fun h0 => ?_⟩
  obtain ⟨b, o, e, hlt, hx⟩ := h.2 h0
  refine ⟨b, o, e, Nat.lt_of_lt_of_le hlt hb.size, fun k hk => ?_⟩
  obtain ⟨x, hx⟩ := hx k hk
  exact ⟨x, (hb.cell (p := ⟨b, o + k, none⟩) hlt).trans hx⟩
theorem conv_at {w : World} {g : Nat} {b : UInt8} (h : Blk w g 5 #[.int .u8 (b.toNat : Int)]) : (convert 33 9 (.slice (some ⟨g, 0, none⟩) 1 1)).run Tryd.prog w = .ok (.string ⟨#[b]⟩) w := by
  have hb : Buf w 0 (.slice (some ⟨g, 0, none⟩) 1 1) [b] := ⟨rfl, .inr ⟨g, 1, _, rfl, Nat.zero_le _, h, Nat.le_refl _, by simp [maxLen], rfl, rfl⟩⟩
  exact run_text hb
theorem split_join (b : UInt8) (s : ByteArray) (hs : s.size ≤ 1048576) : joinR ⟨#[b]⟩ (splitT b s) = s := by
  have e : jnL ⟨#[b]⟩ (splitT b s) = s.data.toList := by
    unfold jnL splitT splitL
    rw [List.map_map]
    have : ((fun x : ByteArray => x.data.toList) ∘ mkT) = id := by funext l; simp [mkT]
    rw [this, List.map_id]
    exact join_split b s.data.toList []
  rw [joinR_yes (by rw [e]; exact hs), e]
theorem itoa_len20 {n : Int} (h : I64 n) : (Lib.itoa n).length ≤ 20 := by
  unfold I64 at h
  rcases Int.lt_or_le n 0 with hn | hn
  · obtain ⟨m, rfl⟩ : ∃ m : Nat, n = -(m : Int) := ⟨(-n).toNat, by omega⟩
    rw [itoa_neg (by omega), List.length_cons, Lib.decDigits_length]
    have := nDigits_le (k := 19) (u := m) (by omega) (by omega)
    omega
  · obtain ⟨m, rfl⟩ : ∃ m : Nat, n = (m : Int) := ⟨n.toNat, by omega⟩
    rw [itoa_pos, Lib.decDigits_length]
    exact nDigits_le (k := 20) (u := m) (by omega) (by omega)
set_option maxRecDepth 20000 in
set_option maxHeartbeats 8000000 in
theorem walk (w : World) (hL : laidMetH Tryd.prog Rows.fnDecimalsRow.laid w) (A : Option Addr) (n cap : Nat) (hn : n ≤ maxLen) (hc : n ≤ 1048576 → CodeAt w A n) : Calls Tryd.prog 11 #[.slice A n cap] w fun e w' => e = .returned (.bool true) ∧ Below w.heap.size w w' := by
  unfold maxLen at hn
  by_cases hbig : n ≤ 1048576
  · have hT := tabB hL
    have hD := drawFormatInt A n cap w (hc hbig)
    have hS := fun (W : World) (hW : Below w.heap.size w W) => drawSplitByte A n cap W (codeKept (hc hbig) hW)
    clear hc hL
    go_enter Tryd.func11, Tryd.ntmps11
    go_upto_region 3 with go_in
    go_upto_region 4 with (go_at_call 31; refine hD.mono ?_; rintro e w1 ⟨x, hx, rfl, hb1⟩)
    clear hD
    go_upto_region 5 with (go_at_call 32; refine (hS _ hb1).mono ?_; rintro e w2 ⟨s, b, hs, rfl, hb2⟩)
    clear hS
    have hbb : Below w.heap.size w w2 := grow (w := w) hb1 hb2
    have hzz := hbb.size
    have hT2 := tab_kept hT hbb
    clear hb1 hb2 hT
    obtain ⟨q, hq⟩ : ∃ q : ByteArray, q = ⟨(Lib.itoa x).toArray⟩ := ⟨_, rfl⟩
    have hF : ∀ W : World, Below w2.heap.size w2 W → Calls Tryd.prog 19 #[.int .i64 x] W fun e w' => e = .returned (.string q) ∧ Below W.heap.size W w' := fun W hW => by
      rw [hq]; exact implFmt x hx W (tab_kept hT2 hW)
    have hP : ∀ W : World, Calls Tryd.prog 33 #[.string q] W fun e w' => e = .returned (.tuple #[.int .i64 (parseI (Lib.itoa x)).1, .bool (parseI (Lib.itoa x)).2]) ∧ W = w' := fun W => by
      have hqs : q.size ≤ 1048576 := by
        rw [hq]; show (Lib.itoa x).toArray.size ≤ _
        have := itoa_len20 hx
        simp only [List.size_toArray]; omega
      have h := implParseInt q hqs W
      have e : q.data.toList = Lib.itoa x := by rw [hq]
      rw [e] at h
      exact h
    clear hT2
    have hPI := parse_itoa x
    have hC : ∃ (y : Int) (ok : Bool), parseI (Lib.itoa x) = (y, ok) ∧ (-999999999999 ≤ x ∧ x ≤ 999999999999 ∧ ok = true ∧ y = x ∨ (x < -999999999999 ∨ 999999999999 < x) ∧ ok = false) := by
      by_cases h : -999999999999 ≤ x ∧ x ≤ 999999999999
      · rw [if_pos h] at hPI
        exact ⟨x, true, hPI, .inl ⟨h.1, h.2, rfl, rfl⟩⟩
      · rw [if_neg h] at hPI
        exact ⟨_, false, hPI, .inr ⟨by omega, rfl⟩⟩
    have hlen := splitT_len b s
    have hsj := split_join b s (by omega)
    have hI : ∀ W : World, Calls Tryd.prog 35 #[.string s, .int .u8 (b.toNat : Int)] W fun e w' => ∃ A cap, e = .returned (.slice A (splitT b s).length cap) ∧ SBuf w' W.heap.size (.slice A (splitT b s).length cap) (splitT b s) ∧ Below W.heap.size W w' := fun W =>
      (implSplit s (by omega) b W).mono fun e w' ⟨v, he, hk, hb⟩ => by obtain ⟨A, cap, rfl⟩ := hk.form; exact ⟨A, cap, he, hk, hb⟩
    have hwl : ∀ i (h : i < (splitT b s).length), (splitT b s)[i].size ≤ 1048576 := fun i h => by
      have := splitT_part b s _ (List.getElem_mem h); omega
    have hJ := fun (W W1 : World) (B : Nat) (A1 : Option Addr) (cap1 : Nat) (h : SBuf W1 B (.slice A1 (splitT b s).length cap1) (splitT b s)) (hb : Below W1.heap.size W1 W) => implJoin (splitT b s) ⟨#[b]⟩ (.slice A1 (splitT b s).length cap1) (· < W.heap.size) W (h.sr_in hb) (fun _ h => h) (by omega) (by show 1 ≤ _; omega) hwl
    rw [hsj] at hJ
    generalize splitT b s = l at hI hJ hlen
    have b0 : (s.toList == s.toList) = true := by simp
    have hcv0 : ∀ W : World, (convert 33 9 (.slice (some ⟨W.heap.size, 0, none⟩) 1 1)).run Tryd.prog (W.alloc (.cells #[.int .u8 (b.toNat : Int)] 5)) = .ok (.string ⟨#[b]⟩) (W.alloc (.cells #[.int .u8 (b.toNat : Int)] 5)) := fun W => conv1 b _ rfl W
    have hcv2 : ∀ W : World, (convert 33 9 (.slice (some ⟨W.heap.size, 0, none⟩) 1 1)).run Tryd.prog (W.alloc (.cells #[.int .u8 (b.toNat : Int)] 5)).drew = .ok (.string ⟨#[b]⟩) (W.alloc (.cells #[.int .u8 (b.toNat : Int)] 5)).drew := fun W => conv_at (Blk.drew (Blk.new W _ _))
    have hbd := byte_bd b
    obtain ⟨y, ok, hE, h⟩ := hC
    rw [hE] at hP
    simp only at hP
    clear hq hsj hwl hE hPI
    have key : ∀ wq : World, Below w.heap.size w wq → True := fun _ _ => trivial
    clear key
    have hxx : I64 x := hx
    unfold I64 at hxx
    rcases h with ⟨h1, h2, rfl, rfl⟩ | ⟨h1 | h1, rfl⟩
    all_goals
      go_upto_region 6 with (first
        | (go_at_call 19; refine (hF _ (Below.refl _ _)).mono ?_; rintro e w3 ⟨rfl, hb3⟩; have hbb := grow (w := w) hbb hb3; have hzz := hbb.size)
        | (go_at_call 33; refine (hP _).mono ?_; rintro e w4 ⟨rfl, rfl⟩))
      go_wp2_with fail
      go_region_with (first
        | (go_at_call 35; refine (hI _).mono ?_; rintro e w5 ⟨A5, cap5, rfl, hk5, hb5⟩; (try (first | have hcv1 := conv_at (b := b) (Blk.kept (Blk.new _ _ _) hb5) | have hcv1 := conv_at (b := b) (Blk.kept (Blk.drew (Blk.new _ _ _)) hb5))))
        | (go_at_call 34; refine (hJ _ w5 _ _ _ hk5 (by repeat (first | exact Below.refl _ _ | refine Below.drew ?_ | refine Below.setCell ?_ (by (try simp); try omega) _ | refine Below.alloc ?_ (by (try simp); try omega) _))).mono ?_; rintro e w6 ⟨rfl, hb6⟩))
      all_goals
        go_wp2_with fail
        go_ret
        have hz5 := hb5.size
        have hz6 := hb6.size
        (try simp at hz5)
        (try simp at hz6)
        refine ⟨rfl, hbb.trans (Below.mono (B := w3.heap.size) ?_ hzz)⟩
        repeat (first | exact Below.refl _ _ | refine Below.drew ?_ | refine Below.alloc ?_ (by (try simp); try omega) _ | refine Below.trans ?_ (hb6.mono (by (try simp); try omega)) | refine Below.trans ?_ (hb5.mono (by (try simp); try omega)))
  · clear hc
    go_enter Tryd.func11, Tryd.ntmps11
    go_wp2_with go_in
    go_ret
    exact ⟨rfl, Below.refl _ _⟩

end Go.Proofs.YtddhgepnoijpoaaDoor.lDecimals
