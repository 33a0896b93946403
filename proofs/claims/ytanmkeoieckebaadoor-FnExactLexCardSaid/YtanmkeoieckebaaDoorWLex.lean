/- Proved here: the walk of the law FnExactLex: the call returns true and leaves all older memory as it was. Condition: the arguments are of their types; the listed tables lie as listed. -/
import Derived.Test.YtanmkeoieckebaaDoorLs
import Derived.Test.YtanmkeoieckebaaDoorCe
namespace Go.Proofs.YtanmkeoieckebaaDoor.lLex
open Go.RowKit

theorem TOwn.grown {w w' : World} {B : Nat} {v : Value} {l : List Tk} {row : Option Nat} (h : TOwn w B v l) (hg : w.grownBy w' row) (hne : ∀ k, v.ownBlock = some k → some k ≠ row) : TOwn w' B v l :=
  ownsRow_keep h fun k hk => hg.block k (h.lt k hk).2 (hne k hk)
theorem len_wt : ∀ l : List Tk, l.length ≤ wtT l
  | [] => by simp [wtT]
  | x :: r => by have := len_wt r; simp [wtT]; omega
theorem lexT_bd (s : ByteArray) : (lexT s).1.length ≤ 90000 ∧ (lexT s).2 ≤ 6001 := by
  unfold lexT
  split
  · simp
  · have h1 := (lexL_good kkOk _ s.data.toList (Nat.le_refl _) 1 false [] (fun x hx => by simp at hx)).2
    have h2 := len_wt (lexL KK s.data.toList 1 false []).1
    have hz : s.data.toList.length = s.size := rfl
    have h3 : ∀ (n : Nat) (m : List UInt8), m.length ≤ n → ∀ line fed out, (lexL KK m line fed out).2 ≤ line + m.length := by
      intro n
      induction n with
      | zero =>
        intro m hm line fed out
        obtain rfl : m = [] := List.eq_nil_of_length_eq_zero (by omega)
        rw [lexL_nil]; simp
      | succ n ih =>
        intro m hm line fed out
        cases m with
        | nil => rw [lexL_nil]; simp
        | cons b r =>
          have hr : r.length ≤ n := by simp at hm; omega
          by_cases h1 : b = 10
          · rw [lexL_nl KK h1]; have := ih r hr (line + 1) true out; simp; omega
          · by_cases h2 : b = 32 ∨ b = 9
            · rw [lexL_bl KK h2]; have := ih r hr line fed out; simp; omega
            · by_cases h3 : b = 35
              · rw [lexL_cm KK h3]
                have hle := (List.dropWhile_sublist (fun x => x != (10 : UInt8)) (l := r)).length_le
                have := ih (r.dropWhile (fun x => x != (10 : UInt8))) (by omega) line fed out
                simp; omega
              · cases hx : lex1 KK (b :: r) with
                | none => rw [lexL_no KK h1 h2 h3 hx]; simp
                | some p =>
                  obtain ⟨k, t, j⟩ := p
                  rw [lexL_tok KK h1 h2 h3 hx]
                  have := ih (r.drop (j - 1)) (by simp; omega) line false (out ++ sepK KK fed out k t ++ [⟨k, t, line⟩])
                  simp at this ⊢; omega
    have h4 := h3 _ s.data.toList (Nat.le_refl _) 1 false []
    simp [wtT] at h1
    omega
set_option maxRecDepth 20000 in
set_option maxHeartbeats 8000000 in
theorem walk (w : World) (hL : laidMetH Tryd.prog Rows.fnExactLexRow.laid w) (s : ByteArray) (hs : s.size ≤ maxLen) : Calls Tryd.prog 6 #[.string s] w fun e w' => e = .returned (.bool true) ∧ Below w.heap.size w w' := by
  unfold maxLen at hs
  by_cases hbig : s.size ≤ 1048576
  · have hT := tabC1 hL
    have hT2 := tabC2 hL
    obtain ⟨hbd, hbl⟩ := lexT_bd s
    have hS := fun (W : World) => specLex s hbig W
    have hI := fun (W : World) (hW : Below w.heap.size w W) => implLex s hbig W (tab_kept hT hW) (tab_kept hT2 hW)
    generalize (lexT s).1 = l at hbd hS hI
    generalize (lexT s).2 = ln at hbl hS hI
    replace hS : ∀ W : World, Calls Tryd.prog 25 #[.string s] W fun e w' => ∃ A cap, e = .returned (.tuple #[.slice A l.length cap, .int .i64 (ln : Int)]) ∧ TOwn w' W.heap.size (.slice A l.length cap) l ∧ Below W.heap.size W w' := fun W => (hS W).mono fun e w' ⟨v, h1, h2, h3⟩ => by
      obtain ⟨A, cap, rfl⟩ := h2.form
      exact ⟨A, cap, h1, h2, h3⟩
    replace hI : ∀ W : World, Below w.heap.size w W → Calls Tryd.prog 26 #[.string s] W fun e w' => ∃ A cap, e = .returned (.tuple #[.slice A l.length cap, .int .i64 (ln : Int)]) ∧ TOwn w' W.heap.size (.slice A l.length cap) l ∧ Below W.heap.size W w' := fun W hW => (hI W hW).mono fun e w' ⟨v, h1, h2, h3⟩ => by
      obtain ⟨A, cap, rfl⟩ := h2.form
      exact ⟨A, cap, h1, h2, h3⟩
    obtain ⟨n, hn⟩ : ∃ n, n = l.length := ⟨_, rfl⟩
    obtain ⟨z, hz⟩ : ∃ z, z = 1 + 3 * l.length := ⟨_, rfl⟩
    have hM := fun (W : World) (B : Nat) (v : Value) (h : TOwn W B v l) => markTk l v B 1 W h (by omega) (by omega)
    have hH := fun (W : World) (B : Nat) (v : Value) (h : TOwn W B v (tkM 1 l.length)) => heldTk l.length 1 v B W h (by omega) (by omega)
    have hE := fun (W : World) (B B' : Nat) (v v' : Value) (h : TOwn W B v l) (h' : TOwn W B' v' l) => eqTkS l v v' B B' W h h' (by omega)
    rw [← hz] at hM hH
    have b1 : decide ((z : Int) < 0) = false := by simp
    have hz' : z ≤ 1099511627776 := by omega
    rw [← hn] at hS hI hM hH hbd
    have HS := Lib.hid hS
    have HI := Lib.hid hI
    have HM := Lib.hid hM
    have HH := Lib.hid hH
    have HE := Lib.hid hE
    clear hL hT hT2 hz hn hS hI hM hH hE
    have hbb : Below w.heap.size w w := Below.refl _ _
    have hzz := hbb.size
    go_enter Tryd.func6, Tryd.ntmps6
    go_wp2_with (first
      | (go_at_call 25; refine (HS.out _).mono ?_; rintro e w1 ⟨A1, cap1, rfl, o1, hb1⟩; have hbb := growT (w := w) (by repeat (first | exact hbb | refine Below.drew ?_ | refine Below.setCell ?_ (by (try simp); try omega) _ | refine Below.alloc ?_ (by (try simp); try omega) _)) hb1; have hzz := hbb.size)
      | (go_at_call 26; have tok := o4; refine (HI.out _ (by repeat (first | exact hbb | refine Below.drew ?_ | refine Below.setCell ?_ (by (try simp); try omega) _ | refine Below.alloc ?_ (by (try simp); try omega) _))).mono ?_; rintro e w6 ⟨A6, cap6, rfl, o6, hb6⟩; have o4 := o4.kept hb6; have o1 := o1.kept hb6; have hbb := growT (w := w) (by repeat (first | exact hbb | refine Below.drew ?_ | refine Below.setCell ?_ (by (try simp); try omega) _ | refine Below.alloc ?_ (by (try simp); try omega) _)) hb6; have hzz := hbb.size)
      | (go_at_call 26; refine (HI.out _ (by repeat (first | exact hbb | refine Below.drew ?_ | refine Below.setCell ?_ (by (try simp); try omega) _ | refine Below.alloc ?_ (by (try simp); try omega) _))).mono ?_; rintro e w2 ⟨A2, cap2, rfl, o2, hb2⟩; have hne : ∀ k, (Value.slice A1 n cap1).ownBlock = some k → some k ≠ (Value.slice A2 n cap2).ownBlock := (fun k hk e => by have h1 := (o1.lt k hk).2; have h2 := (o2.lt k e.symm).1; omega); have hge : ∀ k, (Value.slice A2 n cap2).ownBlock = some k → w.heap.size ≤ k := (fun k hk => by have h2 := (o2.lt k hk).1; omega); have o1 := o1.kept hb2; have hbb := growT (w := w) (by repeat (first | exact hbb | refine Below.drew ?_ | refine Below.setCell ?_ (by (try simp); try omega) _ | refine Below.alloc ?_ (by (try simp); try omega) _)) hb2; have hzz := hbb.size)
      | (go_at_call 27; have tok := o6; refine (HE.out _ _ _ _ _ o6 o1).mono ?_; rintro e w7 ⟨rfl, hb7⟩; have o4 := o4.kept hb7; have hbb := growT (w := w) (by repeat (first | exact hbb | refine Below.drew ?_ | refine Below.setCell ?_ (by (try simp); try omega) _ | refine Below.alloc ?_ (by (try simp); try omega) _)) hb7; have hzz := hbb.size)
      | (go_at_call 27; refine (HE.out _ _ _ _ _ o2 o1).mono ?_; rintro e w3 ⟨rfl, hb3⟩; have o1 := o1.kept hb3; have o2 := o2.kept hb3; have hbb := growT (w := w) (by repeat (first | exact hbb | refine Below.drew ?_ | refine Below.setCell ?_ (by (try simp); try omega) _ | refine Below.alloc ?_ (by (try simp); try omega) _)) hb3; have hzz := hbb.size)
      | (go_at_call 28; refine (HM.out _ _ _ o2).mono ?_; rintro e w4 ⟨rfl, o4, hg4⟩; have o1 := TOwn.grown o1 hg4 hne; have hbb := below_grown hbb hzz hg4 hge; have hzz := hbb.size)
      | (go_at_call 29; have tok := o6; refine (HH.out _ _ _ o4).mono ?_; rintro e w8 ⟨rfl, hb8⟩; have hbb := growT (w := w) (by repeat (first | exact hbb | refine Below.drew ?_ | refine Below.setCell ?_ (by (try simp); try omega) _ | refine Below.alloc ?_ (by (try simp); try omega) _)) hb8; have hzz := hbb.size)
      | (go_at_call 29; refine (HH.out _ _ _ o4).mono ?_; rintro e w5 ⟨rfl, hb5⟩; have o1 := o1.kept hb5; have o4 := o4.kept hb5; have hbb := growT (w := w) (by repeat (first | exact hbb | refine Below.drew ?_ | refine Below.setCell ?_ (by (try simp); try omega) _ | refine Below.alloc ?_ (by (try simp); try omega) _)) hb5; have hzz := hbb.size))
    go_ret
    exact ⟨rfl, hbb⟩
  · have b0 : decide ((1048576 : Int) < (s.size : Int)) = true := decide_eq_true (by omega)
    clear hL
    go_enter Tryd.func6, Tryd.ntmps6
    go_wp2_with fail
    go_ret
    exact ⟨rfl, Below.refl _ _⟩

end Go.Proofs.YtanmkeoieckebaaDoor.lLex
