/- Proved here: the walk of the law FnTokensAgain: the call returns true and leaves all older memory as it was. Condition: the arguments are of their types; the listed tables lie as listed. -/
import Derived.Test.YtanmkeoieckebaaDoorLs
import Derived.Test.YtanmkeoieckebaaDoorDl
import Derived.Test.YtanmkeoieckebaaDoorCe
namespace Go.Proofs.YtanmkeoieckebaaDoor.lTokensAgain
open Go.RowKit

theorem escL_ge (q : UInt8) : ∀ l : List UInt8, l.length ≤ (escL q l).length
  | [] => by simp
  | b :: l => by
    have ih := escL_ge q l
    have h : 1 ≤ (escB q b).length := by unfold escB; repeat' (first | split | simp)
    have e : escL q (b :: l) = escB q b ++ escL q l := by simp [escL]
    rw [e, List.length_append, List.length_cons]; omega
theorem txt_le (s : ByteArray) (i : Nat) (h : i < (lexT s).1.length) : (mkT (tokL (lexT s).1[i].k (lexT s).1[i].t)).size ≤ 90000 ∧ (mkT (lexT s).1[i].t).size ≤ 90000 := by
  have h1 := wt_get (lexT s).1 i h
  have h2 := (lexT_good s).2
  refine ⟨by rw [mkT_size]; omega, ?_⟩
  rw [mkT_size]
  have h3 : (lexT s).1[i].t.length ≤ (tokL (lexT s).1[i].k (lexT s).1[i].t).length := by
    unfold tokL
    split
    · simp [quoteL]; have := escL_ge 34 (lexT s).1[i].t; omega
    · split
      · simp [quoteL]; have := escL_ge 39 (lexT s).1[i].t; omega
      · split <;> simp
  omega
set_option maxRecDepth 20000 in
set_option maxHeartbeats 16000000 in
theorem walk (w : World) (hL : laidMetH Tryd.prog Rows.fnTokensAgainRow.laid w) (A : Option Addr) (n cap : Nat) (hn : n ≤ maxLen) (hc : n ≤ 1048576 → CodeAt w A n) : Calls Tryd.prog 7 #[.slice A n cap] w fun e w' => e = .returned (.bool true) ∧ Below w.heap.size w w' := by
  unfold maxLen at hn
  by_cases hbig : n ≤ 1048576
  · have hT := tabC1 hL
    have hT2 := tabC2 hL
    have hD := drawLex A n cap hbig w (hc hbig)
    clear hc hL
    go_enter Tryd.func7, Tryd.ntmps7
    go_upto_region 3 with go_in
    go_upto_region 4 with (go_at_call 30; refine hD.mono ?_; rintro e w1 ⟨s, hs, rfl, hb1⟩)
    clear hD
    have hlen := len_wt (lexT s).1
    have hgd := lexT_good s
    have hA := jn_A s
    have hAs := jnA_size s
    have HAg := Lib.hid (lexT_again s)
    have HTx := Lib.hid (txt_le s)
    have hS : ∀ W : World, Calls Tryd.prog 25 #[.string s] W fun e w' => ∃ A cap, e = .returned (.tuple #[.slice A (lexT s).1.length cap, .int .i64 ((lexT s).2 : Int)]) ∧ TOwn w' W.heap.size (.slice A (lexT s).1.length cap) (lexT s).1 ∧ Below W.heap.size W w' := fun W => (specLex s (by omega) W).mono fun e w' ⟨v, h1, h2, h3⟩ => by
      obtain ⟨A, cap, rfl⟩ := h2.form
      exact ⟨A, cap, h1, h2, h3⟩
    have hI : ∀ (t : ByteArray) (_ : t.size ≤ 90000) (W : World), Below w.heap.size w W → Calls Tryd.prog 26 #[.string t] W fun e w' => ∃ A cap, e = .returned (.tuple #[.slice A (lexT t).1.length cap, .int .i64 ((lexT t).2 : Int)]) ∧ TOwn w' W.heap.size (.slice A (lexT t).1.length cap) (lexT t).1 ∧ Below W.heap.size W w' := fun t ht W hW => (implLex t (by omega) W (tab_kept hT hW) (tab_kept hT2 hW)).mono fun e w' ⟨v, h1, h2, h3⟩ => by
      obtain ⟨A, cap, rfl⟩ := h2.form
      exact ⟨A, cap, h1, h2, h3⟩
    have hI1 := hI s (by omega)
    have hI2 := hI (jnA s) hAs
    clear hI hT hT2
    have hz : (lexT s).1.length ≤ 90000 := by omega
    have HG : Hid (∀ i (h : i < (lexT s).1.length), GoodT KK (lexT s).1[i].k (lexT s).1[i].t) := Lib.hid fun i h => hgd.1 _ (List.getElem_mem h)
    generalize jnA s = T at hA hAs HAg hI2
    generalize (lexT s).2 = ln at hS hI1
    generalize (lexT s).1 = l at hS hI1 hz HG hA HTx HAg
    have hlnd : (((ln : Nat) : Int) != (ln : Int)) = false := by simp
    obtain ⟨z, hzz⟩ : ∃ z, z = l.length := ⟨_, rfl⟩
    rw [← hzz] at hS hI1 hz
    have HZ := Lib.hid hzz
    clear hzz hgd hlen
    have hsz := hb1.size
    go_upto_region 9 with (first
      | (go_at_call 26; refine (hI1 _ (by exact hb1)).mono ?_; rintro e w2 ⟨A2, cap2, rfl, o2, hb2⟩; have hbb := growT (w := w) hb1 hb2; have hzw := hbb.size)
      | (go_at_call 25; refine (hS _).mono ?_; rintro e w3 ⟨A3, cap3, rfl, o3, hb3⟩; have o2 := o2.kept hb3; have hbb := growT (w := w) (by repeat (first | exact hbb | refine Below.drew ?_ | refine Below.setCell ?_ (by (try simp); try omega) _ | refine Below.alloc ?_ (by (try simp); try omega) _)) hb3; have hzw := hbb.size))
    have HS0 := Lib.hid (SBuf.lit w3 w3.heap.size [] (Nat.le_refl _) (by simp [maxLen]))
    have HO2 := Lib.hid o2
    clear hI1 hS o2 o3 hb1 hb2 hb3
    go_wp2_with fail
    go_loopw [8, 9] (fun v i wr => ∃ (j : Nat) (acc : List ByteArray), i = .int .i64 j ∧ j ≤ z ∧ acc.length = j ∧ Hid (acc = (l.take j).map tx) ∧ SBuf wr w3.heap.size v acc ∧ Below w3.heap.size w3 wr)
      (fun _ i _ => z - (intOf i).toNat)
    case atStart => exact ⟨0, [], rfl, by omega, rfl, Lib.hid rfl, HS0.out, (Below.refl _ _).alloc (Nat.le_refl _) _⟩
    case round =>
      obtain ⟨j, acc, rfl, hj, hacc, HM, hown, hbr⟩ := hrel
      have hszr := hbr.size
      obtain ⟨Av, capv, rfl⟩ := hown.form
      rw [hacc] at hown ⊢
      by_cases hlt : j < z
      · have hlt' : j < l.length := by rw [← HZ.out]; exact hlt
        obtain ⟨g, hA2, hgb, c0, c1, c2⟩ := TOwn.at_ (HO2.out.kept hbr) hlt'
        subst hA2
        have ij : (j : Int) < (z : Int) := by omega
        have htx := HTx.out j hlt'
        have htk := fun W => implTokenText l[j].k (mkT l[j].t) (l[j].l : Int) (by omega) W
        rw [tok_tx (HG.out j hlt')] at htk
        have HN := Lib.hid (show acc ++ [mkT (tokL l[j].k l[j].t)] = (l.take (j + 1)).map tx by
          rw [HM.out, List.take_succ_eq_append_getElem hlt', List.map_append]; rfl)
        have htx1 := htx.1
        replace htk : ∀ W : World, Calls Tryd.prog 31 #[.agg #[.int .i64 l[j].k, .string (mkT l[j].t), .int .i64 (l[j].l : Int)]] W fun e w' => e = .returned (.string (mkT (tokL l[j].k l[j].t))) ∧ Below W.heap.size W w' := htk
        generalize mkT (tokL l[j].k l[j].t) = q at htk HN htx1
        generalize l[j].k = x0 at htk c0
        generalize mkT l[j].t = x1 at htk c1
        generalize (l[j].l : Int) = x2 at htk c2
        clear HM htx
        go_wp2_with (first
          | (go_at_call 31; refine (htk _).mono ?_; rintro e w4 ⟨rfl, hb4⟩; have ow := SBuf.kept hown hb4; have hbb4 := growT hbr hb4; have hs4 := hbb4.size)
          | (at_builtin; refine wpList_appendS_lit rfl _ _ rfl rfl ow 1 rfl (by simp) [q] rfl rfl (by omega) (by omega) ?_; intro v5 w5 hown5 hb5))
        go_roundw
        case rel => exact ⟨j + 1, acc ++ [q], by go_num, by omega, by simp; omega, HN, hown5, hbb4.trans hb5⟩
        case measure => simp [intOf]; omega
      · obtain rfl : j = z := by omega
        have HM2 := Lib.hid (show acc = l.map tx by rw [HM.out, HZ.out, List.take_length])
        have hJ : ∀ W : World, Below wr.heap.size wr W → Calls Tryd.prog 32 #[.slice Av j capv, .string ⟨#[32]⟩] W fun e w' => e = .returned (.string T) ∧ Below W.heap.size W w' := fun W hW => by
          have h := implJoin acc ⟨#[32]⟩ (.slice Av j capv) (· < W.heap.size) W (hown.sr_in hW) (fun _ h => h) (by omega) (by decide) (fun i h => by
            have h2 := HTx.out i (by rw [← HZ.out]; omega)
            have e : acc[i] = mkT (tokL (l[i]'(by rw [← HZ.out]; omega)).k (l[i]'(by rw [← HZ.out]; omega)).t) := by simp only [HM2.out, List.getElem_map]; rfl
            rw [e]; omega)
          rw [HM2.out, hA] at h
          exact h
        have hbw := growT hbb hbr
        have hzw2 := hbw.size
        clear HM hlt
        by_cases hln : ln = 0
        · subst hln
          by_cases hT6 : T.size ≤ 6000
          · have hTT := HAg.out hT6
            rw [hTT] at hI2
            have eL : (l.map one_).length = j := by rw [List.length_map]; exact HZ.out.symm
            have hI3 : ∀ W : World, Below w.heap.size w W → Calls Tryd.prog 26 #[.string T] W fun e w' => ∃ A cap, e = .returned (.tuple #[.slice A j cap, .int .i64 0]) ∧ TOwn w' W.heap.size (.slice A j cap) (l.map one_) ∧ Below W.heap.size W w' := fun W hW => by
              have h := hI2 W hW
              rw [eL] at h
              exact h
            clear hI2 hTT
            go_wp2_with (first
              | (go_at_call 32; refine (hJ _ (Below.refl _ _)).mono ?_; rintro e w5 ⟨rfl, hb5⟩; have hbb5 := growT hbw hb5; have hs5 := hbb5.size; have hr5 := hb5.size; have o5 := HO2.out.kept (hbr.trans (hb5.mono hszr)))
              | (go_at_call 26; refine (hI3 _ hbb5).mono ?_; rintro e w6 ⟨A6, cap6, rfl, o6, hb6⟩; have o5 := o5.kept hb6; have hbb6 := growT hbb5 hb6; have hs6 := hbb6.size))
            have HO5 := Lib.hid o5
            have HO6 := Lib.hid o6
            clear o5 o6 hJ hI3 hown
            go_loopw [13] (fun i wq => ∃ k : Nat, i = .int .i64 k ∧ k ≤ j ∧ Below w6.heap.size w6 wq) (fun i _ => j - (intOf i).toNat)
            case atStart => exact ⟨0, rfl, by omega, Below.refl _ _⟩
            case round =>
              obtain ⟨k, rfl, hk, hbq⟩ := hrel
              by_cases hlk : k < j
              · have hlk' : k < l.length := by rw [← HZ.out]; exact hlk
                have ik : (k : Int) < (j : Int) := by omega
                obtain ⟨g5, hg5, -, c0, c1, -⟩ := TOwn.at_ (HO5.out.kept hbq) hlk'
                obtain ⟨g6, hg6, -, d0, d1, -⟩ := TOwn.at_ (HO6.out.kept hbq) (j := k) (by rw [eL]; exact hlk)
                subst hg5 hg6
                have e1 : (l.map one_)[k]'(by rw [eL]; exact hlk) = one_ l[k] := List.getElem_map _
                rw [e1] at d0 d1
                change _ = some (Value.int .i64 l[k].k) at d0
                change _ = some (Value.string (mkT l[k].t)) at d1
                generalize l[k].k = x0 at c0 d0
                generalize mkT l[k].t = x1 at c1 d1
                have t1 : (x1.toList == x1.toList) = true := by simp
                have t0 : (x0 != x0) = false := by simp
                clear e1
                go_wp2_with fail
                go_quiet (fail)
                go_wp2_with fail
                go_roundw
                case rel => exact ⟨k + 1, by go_num, by omega, below_drewN hbq _⟩
                case measure => simp [intOf]; omega
              · obtain rfl : k = j := by omega
                go_wp2_with fail
                go_ret
                exact ⟨rfl, hbb6.trans (hbq.mono hs6)⟩
          · have b6 : decide ((6000 : Int) < (T.size : Int)) = true := decide_eq_true (by omega)
            go_wp2_with (first
              | (go_at_call 32; refine (hJ _ (Below.refl _ _)).mono ?_; rintro e w5 ⟨rfl, hb5⟩; have hbb5 := growT hbw hb5))
            go_ret
            exact ⟨rfl, hbb5⟩
        · have bl : (((ln : Nat) : Int) != 0) = true := by simp; omega
          go_wp2_with (first
            | (go_at_call 32; refine (hJ _ (Below.refl _ _)).mono ?_; rintro e w5 ⟨rfl, hb5⟩; have hbb5 := growT hbw hb5))
          go_ret
          exact ⟨rfl, hbb5⟩
  · clear hc hL
    go_enter Tryd.func7, Tryd.ntmps7
    go_wp2_with go_in
    go_ret
    exact ⟨rfl, Below.refl _ _⟩

end Go.Proofs.YtanmkeoieckebaaDoor.lTokensAgain
