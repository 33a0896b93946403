/- Proved here: the walk of the law FnLiterals: the call returns true and leaves all older memory as it was. Condition: the arguments are of their types. -/
import Derived.Test.YtddhgepnoijpoaaLi
import Derived.Test.YtddhgepnoijpoaaLiP
import Derived.Test.YtddhgepnoijpoaaQc
import Derived.Test.YtddhgepnoijpoaaUs
import Derived.Test.YtddhgepnoijpoaaUc
import Derived.Test.YtddhgepnoijpoaaCf
namespace Go.Proofs.Ytddhgepnoijpoaa.lLiterals
open Go.RowKit

theorem grow {w W w' : World} (h : Below w.heap.size w W) (h1 : Below W.heap.size W w') : Below w.heap.size w w' := h.trans (h1.mono h.size)
set_option maxRecDepth 20000 in
set_option maxHeartbeats 8000000 in
theorem walk (w : World) (A : Option Addr) (n cap : Nat) (hn : n ≤ maxLen) (hc : n ≤ 1048576 → CodeAt w A n) : Calls Try.prog 5 #[.slice A n cap] w fun e w' => e = .returned (.bool true) ∧ Below w.heap.size w w' := by
  unfold maxLen at hn
  by_cases hbig : n ≤ 1048576
  · have hD := drawQuoteText A n cap w (hc hbig)
    have hC := fun (W : World) (hW : Below w.heap.size w W) => drawQuoteCset A n cap W ((hc hbig).kept hW)
    clear hc
    go_enter Try.func5, Try.ntmps5
    go_upto_region 3 with go_in
    go_upto_region 4 with (go_at_call 12; refine hD.mono ?_; rintro e w1 ⟨s, hs, rfl, hb1⟩)
    clear hD
    go_upto_region 5 with (go_at_call 13; refine (hC _ hb1).mono ?_; rintro e w2 ⟨a, b, ha, hb, rfl, hb2⟩)
    clear hC
    obtain ⟨q, hq⟩ : ∃ q : ByteArray, q = ⟨(quoteL 34 s.data.toList).toArray⟩ := ⟨_, rfl⟩
    obtain ⟨r, hr⟩ : ∃ r : ByteArray, r = ⟨(quoteL 39 (csetL a b)).toArray⟩ := ⟨_, rfl⟩
    have hqs : q.size ≤ 1048576 := by
      rw [hq]; show (quoteL 34 s.data.toList).toArray.size ≤ _
      have := quoteL_len 34 s.data.toList
      have : s.data.toList.length = s.size := rfl
      simp only [List.size_toArray]; omega
    have hrs : r.size ≤ 1048576 := by
      rw [hr]; show (quoteL 39 (csetL a b)).toArray.size ≤ _
      have := quoteL_len 39 (csetL a b)
      have h2 : (csetL a b).length ≤ 128 := csetPre_len a b 128
      simp only [List.size_toArray]; omega
    have hQ : ∀ W : World, Calls Try.prog 15 #[.string s] W fun e w' => e = .returned (.string q) ∧ Below W.heap.size W w' := fun W => by rw [hq]; exact implQuoteText s (by omega) W
    have hR : ∀ W : World, Calls Try.prog 16 #[cs a b] W fun e w' => e = .returned (.string r) ∧ Below W.heap.size W w' := fun W => by rw [hr]; exact implQuoteCset a b W
    have hU : ∀ W : World, Calls Try.prog 14 #[.string q] W fun e w' => e = .returned (.tuple #[.string s, .bool true]) ∧ Below W.heap.size W w' := fun W => by
      have h := implUnquoteText q hqs W
      have e : q.data.toList = quoteL 34 s.data.toList := by rw [hq]
      rw [e, unqL_quote (.inl rfl)] at h
      exact h
    have hV : ∀ W : World, Calls Try.prog 7 #[.string r] W fun e w' => e = .returned (.tuple #[cs a b, .bool true]) ∧ Below W.heap.size W w' := fun W => by
      have h := implUnquoteCset r hrs W
      have e : r.data.toList = quoteL 39 (csetL a b) := by rw [hr]
      rw [e, unqL_quote (.inr rfl), show ucC (some (csetL a b)) = newC (csetL a b) from rfl, newC_csetL ha hb] at h
      exact h
    have b0 : (s.toList == s.toList) = true := by simp
    clear hq hr hqs hrs ha hb hs
    have hbb : Below w.heap.size w w2 := grow (w := w) hb1 hb2
    have hzz := hbb.size
    clear hb1 hb2
    have hge := eqGuardCs
    have heq := eqlCs
    go_upto_region 6 with (first
      | (go_at_call 15; refine (hQ _).mono ?_; rintro e w3 ⟨rfl, hb3⟩; have hbb := grow (w := w) (by repeat (first | exact hbb | refine Below.drew ?_ | refine Below.setCell ?_ (by (try simp); try omega) _ | refine Below.alloc ?_ (by (try simp); try omega) _)) hb3; have hzz := hbb.size; have d0 := kc1 (p := ⟨w2.heap.size, 0, none⟩) (v := .int .i64 a) hb3 (by go_simp); have d1 := kc1 (p := ⟨w2.heap.size, 1, none⟩) (v := .int .i64 b) hb3 (by go_simp))
      | (go_at_call 14; refine (hU _).mono ?_; rintro e w4 ⟨rfl, hb4⟩; have hbb := grow (w := w) (by repeat (first | exact hbb | refine Below.drew ?_ | refine Below.setCell ?_ (by (try simp); try omega) _ | refine Below.alloc ?_ (by (try simp); try omega) _)) hb4; have hzz := hbb.size; have d0 := kc1 hb4 d0; have d1 := kc1 hb4 d1))
    go_upto_region 7 with (first
      | (go_at_call 16; refine (hR _).mono ?_; rintro e w5 ⟨rfl, hb5⟩; have hbb := grow (w := w) (by repeat (first | exact hbb | refine Below.drew ?_ | refine Below.setCell ?_ (by (try simp); try omega) _ | refine Below.alloc ?_ (by (try simp); try omega) _)) hb5; have hzz := hbb.size; have d0 := kc1 hb5 d0; have d1 := kc1 hb5 d1)
      | (go_at_call 7; refine (hV _).mono ?_; rintro e w6 ⟨rfl, hb6⟩; have hbb := grow (w := w) (by repeat (first | exact hbb | refine Below.drew ?_ | refine Below.setCell ?_ (by (try simp); try omega) _ | refine Below.alloc ?_ (by (try simp); try omega) _)) hb6; have hzz := hbb.size; have d0 := kc1 hb6 d0; have d1 := kc1 hb6 d1))
    have g0 : w2.heap.size < w6.heap.size := World.block_lt_of_cell? _ _ d0
    go_wp2_with fail
    go_ret
    exact ⟨rfl, by repeat (first | exact hbb | refine Below.drew ?_ | refine Below.setCell ?_ (by (try simp); try omega) _ | refine Below.alloc ?_ (by (try simp); try omega) _)⟩
  · clear hc
    go_enter Try.func5, Try.ntmps5
    go_wp2_with go_in
    go_ret
    exact ⟨rfl, Below.refl _ _⟩

end Go.Proofs.Ytddhgepnoijpoaa.lLiterals
