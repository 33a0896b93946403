/- Proved here: what TokenText returns, of the program and of the reference; the law's small functions on tokens. Condition: a text has at most 2^20 bytes. Proved here: what the reference's draw of a source text gives (DrawLex): some text that is not long. The texts of the tokens of a text, with blanks between, give the same tokens. Condition: the code's bytes can be read. -/
import Derived.Test.YtanmkeoieckebaaDoorNc
import Derived.Test.YtanmkeoieckebaaDoorQc
import Derived.Test.YtanmkeoieckebaaDoorTq
import Derived.Test.YtanmkeoieckebaaDoorDx
import Derived.Test.YtanmkeoieckebaaDoorLxK
import Derived.Test.YtanmkeoieckebaaDoorJn
namespace Go.Proofs.YtanmkeoieckebaaDoor
open Go.RowKit

/-- The text of a token. -/
def tokT (k : Int) (t : ByteArray) : ByteArray :=
  if k = 4 then ⟨(quoteL 34 t.data.toList).toArray⟩ else if k = 5 then ⟨(quoteL 39 (csetL (newC t.data.toList).1.1 (newC t.data.toList).1.2)).toArray⟩ else if k = 6 then ⟨#[38]⟩ ++ t else t
theorem tokT4 (t : ByteArray) : tokT 4 t = ⟨(quoteL 34 t.data.toList).toArray⟩ := if_pos rfl
theorem tokT5 (t : ByteArray) : tokT 5 t = ⟨(quoteL 39 (csetL (newC t.data.toList).1.1 (newC t.data.toList).1.2)).toArray⟩ := by rw [tokT, if_neg (by decide), if_pos rfl]
theorem tokT6 (t : ByteArray) : tokT 6 t = ⟨#[38]⟩ ++ t := by rw [tokT, if_neg (by decide), if_neg (by decide), if_pos rfl]
theorem tokT0 {k : Int} (t : ByteArray) (h4 : k ≠ 4) (h5 : k ≠ 5) (h6 : k ≠ 6) : tokT k t = t := by rw [tokT, if_neg h4, if_neg h5, if_neg h6]
set_option maxHeartbeats 2000000 in
theorem implTokenText (k : Int) (t : ByteArray) (l : Int) (ht : t.size ≤ 1048576) (w : World) : Calls Tryd.prog 31 #[tkV k t l] w fun e w' => e = .returned (.string (tokT k t)) ∧ Below w.heap.size w w' := by
  unfold tkV
  by_cases h4 : k = 4
  · subst h4
    have hE := Lib.hid (tokT4 t)
    go_enter Tryd.func31, Tryd.ntmps31
    go_wp2_with (go_at_call 69; refine (implQuoteText _ ht _).mono ?_; rintro e w1 ⟨rfl, hb1⟩)
    go_ret
    exact ⟨ret_s hE.out.symm, growT (by repeat (first | exact Below.refl _ _ | refine Below.drew ?_ | refine Below.setCell ?_ (by (try simp); try omega) _ | refine Below.alloc ?_ (by (try simp); try omega) _)) hb1⟩
  · by_cases h5 : k = 5
    · subst h5
      have hE := Lib.hid (tokT5 t)
      go_enter Tryd.func31, Tryd.ntmps31
      go_wp2_with (first
        | (go_at_call 70; refine (implNew t ht _).mono ?_; rintro e w1 ⟨rfl, hb1⟩)
        | (go_at_call 71; refine (implQuoteCset _ _ _).mono ?_; rintro e w2 ⟨rfl, hb2⟩))
      go_ret
      have hbb := growT (w := w) (by repeat (first | exact Below.refl _ _ | refine Below.drew ?_ | refine Below.setCell ?_ (by (try simp); try omega) _ | refine Below.alloc ?_ (by (try simp); try omega) _)) hb1
      have hzz := hbb.size
      exact ⟨ret_s hE.out.symm, growT (by repeat (first | exact hbb | refine Below.drew ?_ | refine Below.setCell ?_ (by (try simp); try omega) _ | refine Below.alloc ?_ (by (try simp); try omega) _)) hb2⟩
    · have b4 : (k == 4) = false := by rw [beq_eq_false_iff_ne]; exact h4
      have b5 : (k == 5) = false := by rw [beq_eq_false_iff_ne]; exact h5
      by_cases h6 : k = 6
      · subst h6
        have hE := Lib.hid (tokT6 t)
        clear h4 h5 b4 b5
        go_enter Tryd.func31, Tryd.ntmps31
        go_wp2
        go_ret
        exact ⟨ret_s hE.out.symm, by repeat (first | exact Below.refl _ _ | refine Below.drew ?_ | refine Below.setCell ?_ (by (try simp); try omega) _ | refine Below.alloc ?_ (by (try simp); try omega) _)⟩
      · have b6 : (k == 6) = false := by rw [beq_eq_false_iff_ne]; exact h6
        have hE := Lib.hid (tokT0 t h4 h5 h6)
        clear h4 h5 h6
        go_enter Tryd.func31, Tryd.ntmps31
        go_wp2
        go_ret
        exact ⟨ret_s hE.out.symm, by repeat (first | exact Below.refl _ _ | refine Below.drew ?_ | refine Below.setCell ?_ (by (try simp); try omega) _ | refine Below.alloc ?_ (by (try simp); try omega) _)⟩
end Go.Proofs.YtanmkeoieckebaaDoor

namespace Go.Proofs.YtanmkeoieckebaaDoor
open Go.RowKit

theorem len_wt : ∀ l : List Tk, l.length ≤ wtT l
  | [] => by simp [wtT]
  | x :: r => by have := len_wt r; simp [wtT]; omega
theorem wt_get : ∀ (l : List Tk) (i : Nat) (h : i < l.length), (tokL l[i].k l[i].t).length ≤ wtT l
  | x :: r, 0, _ => by simp [wtT]; omega
  | x :: r, i + 1, h => by have := wt_get r i (by simpa using h); simp [wtT]; omega
theorem lexT_good (s : ByteArray) : (∀ x ∈ (lexT s).1, GoodT KK x.k x.t) ∧ wtT (lexT s).1 ≤ 90000 := by
  unfold lexT
  split
  · exact ⟨fun x hx => by simp at hx, by simp [wtT]⟩
  · have h1 := lexL_good kkOk _ s.data.toList (Nat.le_refl _) 1 false [] (fun x hx => by simp at hx)
    have hz : s.data.toList.length = s.size := rfl
    refine ⟨h1.1, Nat.le_trans h1.2 ?_⟩
    simp [wtT]; omega
/-- The text of a token, as a text. -/
def tx (x : Tk) : ByteArray := mkT (tokL x.k x.t)
theorem tok_tx {k : Int} {t : List UInt8} (h : GoodT KK k t) : tokT k (mkT t) = mkT (tokL k t) := by
  rcases h with ⟨rfl, _⟩ | ⟨rfl, _⟩ | ⟨rfl, _⟩ | ⟨rfl, _⟩ | ⟨rfl, h⟩ | ⟨rfl, _⟩ | ⟨rfl, _⟩
  · rfl
  · rfl
  · rfl
  · rw [tokT4, tokL_4]; simp [mkT]
  · rw [tokT5, tokL_5]
    have e : (mkT t).data.toList = t := by simp [mkT]
    rw [e]
    replace h : (if (newC t).2 then some (csetL (newC t).1.1 (newC t).1.2) else none) = some t := h
    by_cases h2 : (newC t).2 = true
    · rw [if_pos h2] at h
      have h3 : csetL (newC t).1.1 (newC t).1.2 = t := by simpa using h
      rw [h3]; rfl
    · rw [if_neg h2] at h; cases h
  · rw [tokT6, tokL_6]
    show _ = (⟨(38 :: t).toArray⟩ : ByteArray)
    apply ByteArray.ext
    simp [mkT]
  · rfl
/-- All of them, with blanks between. -/
def jnA (s : ByteArray) : ByteArray := mkT (jnT ((lexT s).1.map fun x => (x.k, x.t)))
theorem jn_A (s : ByteArray) : joinR ⟨#[32]⟩ ((lexT s).1.map tx) = jnA s := by
  have hw := (lexT_good s).2
  have hj := join_wt (lexT s).1
  have e : jnL ⟨#[32]⟩ ((lexT s).1.map tx) = jnT ((lexT s).1.map fun x => (x.k, x.t)) := by
    rw [jnT_join]
    unfold jnL
    rw [List.map_map, List.map_map]
    congr 1
  rw [joinR_yes (by rw [e]; omega), e]; rfl
theorem jnA_size (s : ByteArray) : (jnA s).size ≤ 90000 := by
  have hw := (lexT_good s).2
  have hj := join_wt (lexT s).1
  have : (jnA s).size = (jnT ((lexT s).1.map fun x => (x.k, x.t))).length := by unfold jnA mkT; show Array.size _ = _; simp
  omega
/-- A token on the first line. -/
def one_ (x : Tk) : Tk := ⟨x.k, x.t, 1⟩
theorem lexT_again (s : ByteArray) (h : (jnA s).size ≤ 6000) : lexT (jnA s) = ((lexT s).1.map one_, 0) := by
  have e : (jnA s).data.toList = jnT ((lexT s).1.map fun x => (x.k, x.t)) := by unfold jnA mkT; simp
  conv => lhs; unfold lexT
  rw [if_neg (by omega), e, lexL_again kkOk 1 _ [] (fun x hx => ?_)]
  · rw [List.nil_append, List.map_map]; rfl
  · simp only [List.mem_map] at hx
    obtain ⟨y, hy, rfl⟩ := hx
    exact (lexT_good s).1 y hy
/-- Some number up to 60. -/
def LongP (w : World) (e : Ending) (w' : World) : Prop := ∃ n : Nat, n ≤ 60 ∧ e = .returned (.int .i64 (n : Int)) ∧ w = w'
set_option maxHeartbeats 1000000 in
theorem l1Long60 (A : Option Addr) (n cap : Nat) (hn : n ≤ 1048576) (w : World) : Calls Tryd.prog 65 #[.slice A n cap, .int .i64 4, .int .i64 60] w (LongP w) := by
  have i0 : IntKind.i64.wrap ((n : Int).tdiv 4) = (n : Int) / 4 := by rw [show (n : Int).tdiv 4 = ((n / 4 : Nat) : Int) from rfl, i64_in' (by omega)]; rfl
  have i1 : IntKind.i64.wrap (4 + (n : Int) / 4) = 4 + (n : Int) / 4 := i64_in' (by omega)
  by_cases h : 4 + n / 4 ≤ 60
  · have b0 : decide (60 < 4 + (n : Int) / 4) = false := decide_eq_false (by omega)
    go_enter Tryd.func65, Tryd.ntmps65
    go_wp2
    go_ret
    exact ⟨4 + n / 4, h, by simp, rfl⟩
  · have b0 : decide (60 < 4 + (n : Int) / 4) = true := decide_eq_true (by omega)
    go_enter Tryd.func65, Tryd.ntmps65
    go_wp2
    go_ret
    exact ⟨60, by omega, rfl, rfl⟩
def sz13 (t : ByteArray) : Bool := decide (t.size ≤ 13)
theorem sz13_le {t : ByteArray} (h : sz13 t = true) : t.size ≤ 13 := by simpa [sz13] using h
/-- Some text of at most 40 bytes a round. -/
def SrcP (n g : Nat) (w : World) (e : Ending) (w' : World) : Prop := ∃ t : ByteArray, t.size ≤ 40 * n ∧ e = .returned (.string t) ∧ Cur w' g ∧ w.grownBy w' (some g)
theorem opsAll : allT sz13 ((zOps.map Value.string).toArray).toList = true := by decide +kernel
set_option maxRecDepth 20000 in
set_option maxHeartbeats 8000000 in
theorem l5Source (n : Nat) (hn : n ≤ 60) (g : Nat) (w : World) (hc : Cur w g) : Calls Tryd.prog 64 #[.pointer (some ⟨g, 0, none⟩), .int .i64 (n : Int)] w (SrcP n g w) := by
  go_enter Tryd.func64, Tryd.ntmps64
  go_wp2_with fail
  go_loopw [5, 6] (fun o i wr => ∃ (k : Nat) (t : ByteArray), i = .int .i64 k ∧ o = .string t ∧ k ≤ n ∧ t.size ≤ 40 * k ∧ Cur wr g ∧ w.grownBy wr (some g)) (fun _ i _ => n - (intOf i).toNat)
  case atStart => exact ⟨0, ⟨#[]⟩, rfl, rfl, by omega, Nat.zero_le _, hc, only_refl _ _⟩
  case round =>
    obtain ⟨k, t, rfl, rfl, hk, ht, hcr, hgr⟩ := hrel
    clear hc
    by_cases hlt : k < n
    · have ik : (k : Int) < (n : Int) := by omega
      have hgl := hcr.lt
      go_upto_block 2 with (go_at_call 68; refine (l1Below 4 (by omega) (by omega) g _ hcr).mono ?_; rintro e w1 ⟨x, hx, rfl, hc1, hg1⟩)
      have hg1' := only_trans hgr hg1
      clear hcr hgr hg1
      go_cut [5] (fun o wx => ∃ t2 : ByteArray, o = .string t2 ∧ t2.size ≤ 40 * k + 13 ∧ Cur wx g ∧ w.grownBy wx (some g))
      case first =>
        have hways : x = 0 ∨ x = 1 ∨ (((x : Int) == 0) = false ∧ ((x : Int) == 1) = false) := by
          by_cases h0 : x = 0
          · exact .inl h0
          · by_cases h1 : x = 1
            · exact .inr (.inl h1)
            · exact .inr (.inr ⟨by rw [beq_eq_false_iff_ne]; omega, by rw [beq_eq_false_iff_ne]; omega⟩)
        rcases hways with rfl | rfl | ⟨h0, h1⟩
        · go_wp2_with (first
            | (go_at_call 104; refine (specOps _).mono ?_; rintro e w' ⟨rfl, rfl⟩)
            | (go_at_call 84; refine Calls.mono (l1PickLit sz13 (by rfl) hc1 opsAll (by decide +kernel) (by omega) (by omega)) ?_; rintro e w2 ⟨p, hp, rfl, hc2, hg2⟩; have hps := sz13_le hp; clear hp))
          go_meet
          exact ⟨_, rfl, by rw [ByteArray.size_append]; omega, hc2, only_trans hg1' (only_trans (only_alloc (only_refl _ _) _) hg2)⟩
        · go_wp2_with (first
            | (go_at_call 84; refine Calls.mono (l1PickLit sz13 (by rfl) hc1 (by decide) (by rfl) (by omega) (by omega)) ?_; rintro e w2 ⟨p, hp, rfl, hc2, hg2⟩; have hps := sz13_le hp; clear hp))
          go_meet
          exact ⟨_, rfl, by rw [ByteArray.size_append]; omega, hc2, only_trans hg1' (only_trans (only_alloc (only_refl _ _) _) hg2)⟩
        · go_wp2_with (first
            | (go_at_call 84; refine Calls.mono (l1PickLit sz13 (by rfl) hc1 (by decide) (by rfl) (by omega) (by omega)) ?_; rintro e w2 ⟨p, hp, rfl, hc2, hg2⟩; have hps := sz13_le hp; clear hp))
          go_meet
          exact ⟨_, rfl, by rw [ByteArray.size_append]; omega, hc2, only_trans hg1' (only_trans (only_alloc (only_refl _ _) _) hg2)⟩
      case rest =>
        obtain ⟨t2, rfl, ht2, hc2, hg2⟩ := hcut
        clear hc1 hg1' ht
        go_wp2_with (first
          | (go_at_call 84; refine Calls.mono (l1PickLit sz13 (by rfl) hc2 (by decide) (by rfl) (by omega) (by omega)) ?_; rintro e w3 ⟨p, hp, rfl, hc3, hg3⟩; have hps := sz13_le hp; clear hp))
        go_roundw
        case rel => exact ⟨k + 1, _, by go_num, rfl, by omega, by rw [ByteArray.size_append]; omega, hc3, only_trans hg2 (only_trans (only_alloc (only_refl _ _) _) hg3)⟩
        case measure => simp [intOf]; omega
    · obtain rfl : k = n := by omega
      go_wp2_with fail
      go_ret
      exact ⟨t, ht, rfl, hcr, hgr⟩
set_option maxHeartbeats 4000000 in
theorem drawLex (A : Option Addr) (n cap : Nat) (hn : n ≤ 1048576) (w : World) (hc : CodeAt w A n) : Calls Tryd.prog 30 #[.slice A n cap] w fun e w' => ∃ s : ByteArray, s.size ≤ 7000 ∧ e = .returned (.string s) ∧ Below w.heap.size w w' := by
  go_enter Tryd.func30, Tryd.ntmps30
  go_upto_region 2 with (go_at_call 63; refine (l1New A n cap _ hc).mono ?_; rintro e w1 ⟨g, rfl, hg, hc1, hb1⟩)
  go_upto_region 3 with (first
    | (go_at_call 65; refine (l1Long60 A n cap hn _).mono ?_; rintro e w' ⟨m, hm, rfl, rfl⟩)
    | (go_at_call 64; refine (l5Source m hm g _ hc1).mono ?_; rintro e w2 ⟨t, ht, rfl, hc2, hg2⟩))
  have ht' : t.size ≤ 2400 := by omega
  go_upto_if 12 with (go_at_call 66; refine (l1Once 30 (by omega) (by omega) g _ hc2).mono ?_; rintro e w3 ⟨b, rfl, hc3, hg3⟩)
  cases b with
  | true =>
    go_wp2_with (first
      | (go_at_call 68; refine (l1Below 3 (by omega) (by omega) g _ hc3).mono ?_; rintro e w4 ⟨y, hy, rfl, hc4, hg4⟩)
      | (go_at_call 67; refine (specPad _ _ (by omega) (by omega) _).mono ?_; rintro e w5 ⟨rfl, hb5⟩))
    go_ret
    exact ⟨_, by rw [ByteArray.size_append, rep_size]; omega, rfl, only_own hb1 (only_trans hg2 (only_trans hg3 (only_below hg4 hb5))) hg⟩
  | false =>
    go_wp2_with fail
    go_ret
    exact ⟨t, by omega, rfl, only_own hb1 (only_trans hg2 hg3) hg⟩
end Go.Proofs.YtanmkeoieckebaaDoor
