/- Proved here: what the readings of quoted literals return, of the program and of the reference. Condition: a text has at most 2^20 bytes; the sign is one of the two. -/
import Derived.Test.YtanmkeoieckebaaDoorUqP
import Derived.Test.YtanmkeoieckebaaDoorTx
import Derived.Test.YtanmkeoieckebaaDoorHeld
namespace Go.Proofs.YtanmkeoieckebaaDoor
open Go.RowKit

theorem drop_two (s : ByteArray) {k c : Nat} (hc : c = k + 1) (h : c < s.size) : s.data.toList.drop k = s[k] :: s[c] :: s.data.toList.drop (c + 1) := by
  subst hc
  rw [List.drop_eq_getElem_cons (by simp; omega), List.drop_eq_getElem_cons (i := k + 1) (by simp; omega)]; rfl
theorem drop_last (s : ByteArray) {k : Nat} (h : k + 1 = s.size) : s.data.toList.drop k = [s[k]] := by
  rw [List.drop_eq_getElem_cons (by simp; omega), List.drop_of_length_le (by simp; omega)]; rfl
theorem drop_ne (s : ByteArray) {k : Nat} (h : k < s.size) : s.data.toList.drop k ≠ [] := by
  intro e
  have := congrArg List.length e
  simp at this; omega
abbrev U (q : UInt8) (s : ByteArray) (k : Nat) : Option (List UInt8) := unqI q (s.data.toList.drop k)
theorem U_done {q : UInt8} {s : ByteArray} {k : Nat} (h : k + 1 = s.size) : U q s k = some [] := by
  rw [U, drop_last s h, unqI]
theorem U_plain {q : UInt8} {s : ByteArray} {k c : Nat} (hk : k < s.size) (hc : c = k + 1) (h : c < s.size) (h92 : s[k] ≠ 92) (hb : badB q s[k] = false) : U q s k = (U q s c).map (s[k] :: ·) := by
  rw [U, drop_two s hc h, unqI, if_neg h92, if_neg (by rw [hb]; simp), U, List.drop_eq_getElem_cons (i := c) (by simpa using h)]; rfl
theorem U_bad {q : UInt8} {s : ByteArray} {k c : Nat} (hc : c = k + 1) (h : c < s.size) (h92 : s[k] ≠ 92) (hb : badB q s[k] = true) : U q s k = none := by
  rw [U, drop_two s hc h, unqI, if_neg h92, if_pos hb]
theorem U_cut {q : UInt8} {s : ByteArray} {k c : Nat} (hc : c = k + 1) (h : c + 1 = s.size) (h92 : s[k] = 92) : U q s k = none := by
  rw [U, drop_two s hc (by omega), unqI, if_pos h92, if_pos (List.drop_of_length_le (by simp; omega))]
theorem U_esc {q : UInt8} {s : ByteArray} {k c d : Nat} (hc : c = k + 1) (hd : d = c + 1) (h : d < s.size) (h92 : s[k] = 92) : U q s k =
    if s[c] = 110 then (U q s d).map (10 :: ·)
    else if s[c] = 116 then (U q s d).map (9 :: ·)
    else if s[c] = 92 ∨ s[c] = 34 ∨ s[c] = 39 then (U q s d).map (s[c] :: ·)
    else if s[c] = 120 then (hexP (s.data.toList.drop d)).bind fun v => (unqI q ((s.data.toList.drop d).drop 2)).map (UInt8.ofNat v :: ·)
    else none := by
  subst hd
  rw [U, drop_two s hc (by omega), unqI, if_pos h92, if_neg (drop_ne s h)]
theorem U_n {q : UInt8} {s : ByteArray} {k c d : Nat} (hc : c = k + 1) (hd : d = c + 1) (h : d < s.size) (h92 : s[k] = 92) (he : s[c] = 110) : U q s k = (U q s d).map (10 :: ·) := by
  rw [U_esc hc hd h h92, if_pos he]
theorem U_t {q : UInt8} {s : ByteArray} {k c d : Nat} (hc : c = k + 1) (hd : d = c + 1) (h : d < s.size) (h92 : s[k] = 92) (he : s[c] = 116) : U q s k = (U q s d).map (9 :: ·) := by
  rw [U_esc hc hd h h92, if_neg (by rw [he]; decide), if_pos he]
theorem U_self {q : UInt8} {s : ByteArray} {k c d : Nat} (hcs : c < s.size) (hc : c = k + 1) (hd : d = c + 1) (h : d < s.size) (h92 : s[k] = 92) (he : s[c] = 92 ∨ s[c] = 34 ∨ s[c] = 39) : U q s k = (U q s d).map (s[c] :: ·) := by
  rw [U_esc hc hd h h92, if_neg (by rcases he with he | he | he <;> (rw [he]; decide)), if_neg (by rcases he with he | he | he <;> (rw [he]; decide)), if_pos he]
theorem U_x {q : UInt8} {s : ByteArray} {k c d : Nat} (hc : c = k + 1) (hd : d = c + 1) (h : d < s.size) (h92 : s[k] = 92) (he : s[c] = 120) : U q s k = (hexP (s.data.toList.drop d)).bind fun v => (unqI q ((s.data.toList.drop d).drop 2)).map (UInt8.ofNat v :: ·) := by
  rw [U_esc hc hd h h92, if_neg (by rw [he]; decide), if_neg (by rw [he]; decide), if_neg (by rw [he]; decide), if_pos he]
theorem U_other {q : UInt8} {s : ByteArray} {k c d : Nat} (hc : c = k + 1) (hd : d = c + 1) (h : d < s.size) (h92 : s[k] = 92) (h1 : s[c] ≠ 110) (h2 : s[c] ≠ 116) (h3 : ¬ (s[c] = 92 ∨ s[c] = 34 ∨ s[c] = 39)) (h4 : s[c] ≠ 120) : U q s k = none := by
  rw [U_esc hc hd h h92, if_neg h1, if_neg h2, if_neg h3, if_neg h4]
theorem hexP_short {s : ByteArray} {d : Nat} (h : s.size ≤ d + 2) : hexP (s.data.toList.drop d) = none := by
  cases hp : hexP (s.data.toList.drop d) with
  | none => rfl
  | some v =>
    obtain ⟨h1, h2, z, r2, e, _⟩ := hexP_some hp
    have := congrArg List.length e
    simp at this; omega
theorem hexP_at {s : ByteArray} {d f : Nat} (hf : f = d + 1) (h : d + 2 < s.size) : hexP (s.data.toList.drop d) = (match hexV s[d], hexV s[f] with | some a, some b => some (a * 16 + b) | _, _ => none) := by
  rw [drop_two s hf (by omega)]
  have : ∃ z r, s.data.toList.drop (f + 1) = z :: r := by
    rw [List.drop_eq_getElem_cons (by simp; omega)]; exact ⟨_, _, rfl⟩
  obtain ⟨z, r, e⟩ := this
  rw [e]; rfl
theorem U_short {q : UInt8} {s : ByteArray} {k c d : Nat} (hc : c = k + 1) (hd : d = c + 1) (h : d < s.size) (h92 : s[k] = 92) (he : s[c] = 120) (hs : s.size ≤ d + 2) : U q s k = none := by
  rw [U_x hc hd h h92 he, hexP_short hs]; rfl
theorem U_hex1 {q : UInt8} {s : ByteArray} {k c d : Nat} (hc : c = k + 1) (hd : d = c + 1) (h : d + 2 < s.size) (h92 : s[k] = 92) (he : s[c] = 120) (hx : hexV s[d] = none) : U q s k = none := by
  rw [U_x hc hd (by omega) h92 he, hexP_at rfl h, hx]; rfl
theorem U_hex2 {q : UInt8} {s : ByteArray} {k c d f : Nat} (hc : c = k + 1) (hd : d = c + 1) (hf : f = d + 1) (h : d + 2 < s.size) (h92 : s[k] = 92) (he : s[c] = 120) (hx : hexV s[f] = none) : U q s k = none := by
  rw [U_x hc hd (by omega) h92 he, hexP_at hf h, hx]; cases hexV s[d] <;> rfl
theorem U_hex {q : UInt8} {s : ByteArray} {k c d f : Nat} (hc : c = k + 1) (hd : d = c + 1) (hf : f = d + 1) (h : d + 2 < s.size) (h92 : s[k] = 92) (he : s[c] = 120) {a b : Nat} (ha : hexV s[d] = some a) (hb : hexV s[f] = some b) : U q s k = (U q s (f + 1)).map (UInt8.ofNat (a * 16 + b) :: ·) := by
  rw [U_x hc hd (by omega) h92 he, hexP_at hf h, ha, hb]
  subst hf
  simp only [Option.bind_some, List.drop_drop, U]
theorem rel_next {o u u' : Option (List UInt8)} {acc : List UInt8} {c : UInt8} (h : o = u.map (acc ++ ·)) (hu : u = u'.map (c :: ·)) : o = u'.map ((acc ++ [c]) ++ ·) := by
  subst hu; rw [h]; cases u' <;> simp
theorem rel_none {o u : Option (List UInt8)} {acc : List UInt8} (h : o = u.map (acc ++ ·)) (hu : u = none) : o = none := by
  subst hu; rw [h]; rfl
theorem rel_done {o u : Option (List UInt8)} {acc : List UInt8} (h : o = u.map (acc ++ ·)) (hu : u = some []) : o = some acc := by
  subst hu; rw [h]; simp
theorem rel_start {o u : Option (List UInt8)} (h : o = u) : o = u.map ([] ++ ·) := by subst h; cases o <;> simp
/-- The two results. -/
def uqE (o : Option (List UInt8)) : Ending := .returned (.tuple #[txt (o.getD []), .bool o.isSome])
theorem ret_none {o : Option (List UInt8)} (h : o = none) : Ending.returned (.tuple #[.string ⟨#[]⟩, .bool false]) = uqE o := by subst h; rfl
theorem ret_some {o : Option (List UInt8)} {l : List UInt8} (h : o = some l) : Ending.returned (.tuple #[.string ⟨l.toArray⟩, .bool true]) = uqE o := by subst h; rfl
theorem u8T {x c : UInt8} (h : x = c) : ((x.toNat : Int) == (c.toNat : Int)) = true := by subst h; simp
theorem u8F {x c : UInt8} (h : ¬ x = c) : ((x.toNat : Int) == (c.toNat : Int)) = false := by
  rw [beq_eq_false_iff_ne]; intro e; exact h (UInt8.toNat_inj.1 (by omega))
theorem u8nT {x c : UInt8} (h : ¬ x = c) : ((x.toNat : Int) != (c.toNat : Int)) = true := by rw [bne, u8F h]; rfl
theorem u8nF {x c : UInt8} (h : x = c) : ((x.toNat : Int) != (c.toNat : Int)) = false := by rw [bne, u8T h]; rfl
theorem bad_yes {q x : UInt8} (h : badB q x = true) : x.toNat < 32 ∨ 126 < x.toNat ∧ 32 ≤ x.toNat ∨ 32 ≤ x.toNat ∧ x.toNat ≤ 126 ∧ ((x.toNat : Int) == (q.toNat : Int)) = true := by
  simp only [badB, Bool.or_eq_true, decide_eq_true_eq, beq_iff_eq] at h
  by_cases h1 : x.toNat < 32
  · exact .inl h1
  · by_cases h2 : 126 < x.toNat
    · exact .inr (.inl ⟨h2, by omega⟩)
    · exact .inr (.inr ⟨by omega, by omega, u8T (by rcases h with (h | h) | h; omega; omega; exact h)⟩)
theorem bad_no {q x : UInt8} (h : badB q x = false) : 32 ≤ x.toNat ∧ x.toNat ≤ 126 ∧ ((x.toNat : Int) == (q.toNat : Int)) = false := by
  simp only [badB, Bool.or_eq_false_iff, decide_eq_false_iff_not] at h
  exact ⟨by omega, by omega, u8F (by intro e; have := h.2; subst e; simp at this)⟩
theorem hexCell {n : Nat} (h : n < 256) (v : Int) (hv : v = (n : Int)) : (#[Value.int .u8 v] : Array Value).toList = bytesV [UInt8.ofNat n] := by
  subst hv
  have e : (UInt8.ofNat n).toNat = n := by simp; omega
  simp [bytesV, e]
theorem hexI_some {x : UInt8} {v : Nat} (h : hexV x = some v) : 48 ≤ x.toNat ∧ x.toNat ≤ 57 ∧ (v : Int) = (x.toNat : Int) - 48 ∨ 97 ≤ x.toNat ∧ x.toNat ≤ 102 ∧ (v : Int) = (x.toNat : Int) - 87 := by
  unfold hexV at h
  split at h
  · cases h; exact .inl (by omega)
  · split at h
    · cases h; exact .inr (by omega)
    · cases h
theorem hexI_none {x : UInt8} (h : hexV x = none) : x.toNat < 48 ∨ 57 < x.toNat ∧ x.toNat < 97 ∨ 102 < x.toNat := by
  unfold hexV at h
  split at h
  · cases h
  · split at h
    · cases h
    · omega
theorem ret_iu {a b : Int} (h : a = b) : Ending.returned (.int .i64 a) = .returned (.int .i64 b) := by rw [h]
/-- What a digit's value is, as a number: -1 for none. -/
def hexN (x : UInt8) : Int := match hexV x with | some v => v | none => -1
theorem hexN_some {x : UInt8} {v : Nat} (h : hexV x = some v) : hexN x = (v : Int) := by rw [hexN, h]
theorem hexN_none {x : UInt8} (h : hexV x = none) : hexN x = -1 := by rw [hexN, h]
theorem implHex1 (x : UInt8) (w : World) : Calls Tryd.prog 156 #[.int .u8 (x.toNat : Int)] w fun e w' => e = .returned (.int .i64 (hexN x)) ∧ w = w' := by
  have hx := byte_bd x
  cases hv : hexV x with
  | none =>
    have E := Lib.hid (hexN_none hv)
    rcases hexI_none hv with h | ⟨h, h2⟩ | h
    all_goals
      clear hv
      go_enter Tryd.func156, Tryd.ntmps156
      go_wp2
      go_ret
      exact ⟨ret_iu E.out.symm, rfl⟩
  | some v =>
    have E := Lib.hid (hexN_some hv)
    rcases hexI_some hv with ⟨h, h2, h3⟩ | ⟨h, h2, h3⟩
    all_goals
      have H := Lib.hid h3
      clear hv h3
      go_enter Tryd.func156, Tryd.ntmps156
      go_wp2
      go_ret
      exact ⟨ret_iu (by rw [E.out, H.out]; try omega), rfl⟩
theorem specHex1 (x : UInt8) (w : World) : Calls Tryd.prog 154 #[.int .u8 (x.toNat : Int)] w fun e w' => e = .returned (.int .i64 (hexN x)) ∧ w = w' := by
  have hx := byte_bd x
  cases hv : hexV x with
  | none =>
    have E := Lib.hid (hexN_none hv)
    rcases hexI_none hv with h | ⟨h, h2⟩ | h
    all_goals
      clear hv
      go_enter Tryd.func154, Tryd.ntmps154
      go_wp2
      go_ret
      exact ⟨ret_iu E.out.symm, rfl⟩
  | some v =>
    have E := Lib.hid (hexN_some hv)
    rcases hexI_some hv with ⟨h, h2, h3⟩ | ⟨h, h2, h3⟩
    all_goals
      have H := Lib.hid h3
      clear hv h3
      go_enter Tryd.func154, Tryd.ntmps154
      go_wp2
      go_ret
      exact ⟨ret_iu (by rw [E.out, H.out]; try omega), rfl⟩
set_option maxHeartbeats 8000000 in
set_option maxRecDepth 10000 in
theorem implUnq (q : UInt8) (s : ByteArray) (hs : s.size ≤ 1048576) (w : World) : Calls Tryd.prog 136 #[.string s, .int .u8 (q.toNat : Int)] w fun e w' => e = uqE (unqL q s.data.toList) ∧ Below w.heap.size w w' := by
  have hqb := byte_bd q
  have hz : s.data.toList.length = s.size := rfl
  by_cases h2 : s.size < 2
  · have E := Lib.hid (show unqL q s.data.toList = none from if_pos (.inl (by omega)))
    have b2 : decide ((s.size : Int) < 2) = true := by simp; omega
    clear hz
    go_enter Tryd.func136, Tryd.ntmps136
    go_wp2
    go_ret2
    exact ⟨ret_none E.out, Below.refl _ _⟩
  · have p0 : 0 < s.size := by omega
    have b2 : decide ((s.size : Int) < 2) = false := by simp; omega
    obtain ⟨z, hz1⟩ : ∃ z : Nat, z + 1 = s.size := ⟨s.size - 1, by omega⟩
    have hz2 : (s.size : Int) - 1 = (z : Int) := by omega
    have pz : z < s.size := by omega
    have e0 : s.data.toList.head? = some s[0] := by rw [List.head?_eq_getElem?, List.getElem?_eq_getElem (by simpa using p0)]; rfl
    have ez : s.data.toList.getLast? = some s[z] := by
      rw [List.getLast?_eq_getElem?, show s.data.toList.length - 1 = z from by omega, List.getElem?_eq_getElem (by simpa using pz)]; rfl
    by_cases c0 : s[0] = q
    · have b0 : ((s[0].toNat : Int) != (q.toNat : Int)) = false := u8nF c0
      by_cases c1 : s[z] = q
      · have b1 : ((s[z].toNat : Int) != (q.toNat : Int)) = false := u8nF c1
        have E := Lib.hid (show unqL q s.data.toList = U q s 1 from if_neg (by rw [e0, ez, c0, c1]; simp; omega))
        clear c0 c1 e0 ez
        go_enter Tryd.func136, Tryd.ntmps136
        go_wp2
        go_loopw [6, 8, 9] (fun v i _ wr => ∃ (k : Nat) (acc : List UInt8), i = .int .i64 k ∧ Hid (unqL q s.data.toList = (U q s k).map (acc ++ ·)) ∧ Buf wr w.heap.size v acc ∧ k ≤ z ∧ acc.length ≤ k ∧ Below w.heap.size w wr)
          (fun _ i _ _ => s.size - (intOf i).toNat)
        case atStart => exact ⟨1, [], rfl, Lib.hid (rel_start E.out), Buf.lit w w.heap.size [] (Nat.le_refl _) (by simp [maxLen]), by omega, by simp, (Below.refl _ _).alloc (Nat.le_refl _) _⟩
        case round =>
          obtain ⟨k, acc, rfl, HR, hown, hk, hacc, hb⟩ := hrel
          have hsz := hb.size
          by_cases hkz : k = z
          · subst hkz
            have HN := Lib.hid (rel_done HR.out (U_done hz1))
            clear HR
            have hcv := run_text hown
            go_wp2
            go_ret2
            exact ⟨ret_some HN.out, hb⟩
          · have hlt : k < z := by omega
            obtain ⟨c1, hc1⟩ : ∃ c, c = k + 1 := ⟨_, rfl⟩
            obtain ⟨c2, hc2⟩ : ∃ c, c = c1 + 1 := ⟨_, rfl⟩
            obtain ⟨c3, hc3⟩ : ∃ c, c = c2 + 1 := ⟨_, rfl⟩
            have j1 : (k : Int) + 1 = (c1 : Int) := by omega
            have j2 : (c1 : Int) + 1 = (c2 : Int) := by omega
            have j3 : (c1 : Int) + 2 = (c3 : Int) := by omega
            have hk1 : c1 < s.size := by omega
            have hkk : k < s.size := by omega
            clear hkz
            by_cases h92 : s[k] = 92
            · have b92 : ((s[k].toNat : Int) != 92) = false := u8nF h92
              by_cases hcut : c1 = z
              · have hge : z ≤ c1 := by omega
                have k0 : c1 + 1 = s.size := by omega
                have HN := Lib.hid (rel_none HR.out (U_cut hc1 k0 h92))
                clear h92 hc1 hcut k0 HR
                go_wp2
                go_ret2
                exact ⟨ret_none HN.out, hb⟩
              · have hlt1 : c1 < z := by omega
                have hlt2 : c2 < s.size := by omega
                by_cases d1 : s[c1] = 110
                · have f1 : ((s[c1].toNat : Int) == 110) = true := u8T d1
                  have HN := Lib.hid (rel_next HR.out (U_n hc1 hc2 hlt2 h92 d1))
                  clear h92 hc1 hc2 d1 hcut HR
                  go_wp2_with (at_builtin; refine wpList_append_lit rfl _ _ rfl rfl hown 1 rfl (by simp) [10] rfl rfl (by omega) (by omega) ?_; intro v1 w1 hown1 hb1)
                  go_roundw
                  case rel => exact ⟨c2, _, congrArg (Value.int .i64) (by omega), HN, hown1, by omega, by simp; omega, hb.trans hb1⟩
                  case measure => simp [intOf]; omega
                · have f1 : ((s[c1].toNat : Int) == 110) = false := u8F d1
                  by_cases d2 : s[c1] = 116
                  · have f2 : ((s[c1].toNat : Int) == 116) = true := u8T d2
                    have HN := Lib.hid (rel_next HR.out (U_t hc1 hc2 hlt2 h92 d2))
                    clear h92 hc1 hc2 d1 d2 hcut HR
                    go_wp2_with (at_builtin; refine wpList_append_lit rfl _ _ rfl rfl hown 1 rfl (by simp) [9] rfl rfl (by omega) (by omega) ?_; intro v1 w1 hown1 hb1)
                    go_roundw
                    case rel => exact ⟨c2, _, congrArg (Value.int .i64) (by omega), HN, hown1, by omega, by simp; omega, hb.trans hb1⟩
                    case measure => simp [intOf]; omega
                  · have f2 : ((s[c1].toNat : Int) == 116) = false := u8F d2
                    by_cases d3 : s[c1] = 92
                    · have f3 : ((s[c1].toNat : Int) == 92) = true := u8T d3
                      have HN := Lib.hid (rel_next HR.out (U_self hk1 hc1 hc2 hlt2 h92 (.inl d3)))
                      clear h92 hc1 hc2 d1 d2 d3 hcut HR
                      go_wp2_with (at_builtin; refine wpList_append_lit rfl _ _ rfl rfl hown 1 rfl (by simp) [s[c1]] rfl rfl (by omega) (by omega) ?_; intro v1 w1 hown1 hb1)
                      go_roundw
                      case rel => exact ⟨c2, _, congrArg (Value.int .i64) (by omega), HN, hown1, by omega, by simp; omega, hb.trans hb1⟩
                      case measure => simp [intOf]; omega
                    · have f3 : ((s[c1].toNat : Int) == 92) = false := u8F d3
                      by_cases d4 : s[c1] = 34
                      · have f4 : ((s[c1].toNat : Int) == 34) = true := u8T d4
                        have HN := Lib.hid (rel_next HR.out (U_self hk1 hc1 hc2 hlt2 h92 (.inr (.inl d4))))
                        clear h92 hc1 hc2 d1 d2 d3 d4 hcut HR
                        go_wp2_with (at_builtin; refine wpList_append_lit rfl _ _ rfl rfl hown 1 rfl (by simp) [s[c1]] rfl rfl (by omega) (by omega) ?_; intro v1 w1 hown1 hb1)
                        go_roundw
                        case rel => exact ⟨c2, _, congrArg (Value.int .i64) (by omega), HN, hown1, by omega, by simp; omega, hb.trans hb1⟩
                        case measure => simp [intOf]; omega
                      · have f4 : ((s[c1].toNat : Int) == 34) = false := u8F d4
                        by_cases d5 : s[c1] = 39
                        · have f5 : ((s[c1].toNat : Int) == 39) = true := u8T d5
                          have HN := Lib.hid (rel_next HR.out (U_self hk1 hc1 hc2 hlt2 h92 (.inr (.inr d5))))
                          clear h92 hc1 hc2 d1 d2 d3 d4 d5 hcut HR
                          go_wp2_with (at_builtin; refine wpList_append_lit rfl _ _ rfl rfl hown 1 rfl (by simp) [s[c1]] rfl rfl (by omega) (by omega) ?_; intro v1 w1 hown1 hb1)
                          go_roundw
                          case rel => exact ⟨c2, _, congrArg (Value.int .i64) (by omega), HN, hown1, by omega, by simp; omega, hb.trans hb1⟩
                          case measure => simp [intOf]; omega
                        · have f5 : ((s[c1].toNat : Int) == 39) = false := u8F d5
                          by_cases d6 : s[c1] = 120
                          · have f6 : ((s[c1].toNat : Int) == 120) = true := u8T d6
                            by_cases hsh : z ≤ c3
                            · have k0 : s.size ≤ c2 + 2 := by omega
                              have HN := Lib.hid (rel_none HR.out (U_short hc1 hc2 hlt2 h92 d6 k0))
                              clear h92 hc1 hc2 hc3 d1 d2 d3 d4 d5 d6 hcut k0 HR
                              go_wp2
                              go_ret2
                              exact ⟨ret_none HN.out, hb⟩
                            · have hlt3 : c3 < z := by omega
                              have k0 : c2 + 2 < s.size := by omega
                              have k3 : c3 < s.size := by omega
                              cases x2 : hexV s[c2] with
                              | none =>
                                have y2 := hexN_none x2
                                have HN := Lib.hid (rel_none HR.out (U_hex1 hc1 hc2 k0 h92 d6 x2))
                                clear h92 hc1 hc2 hc3 d1 d2 d3 d4 d5 d6 hcut k0 x2 HR
                                go_wp2_with (go_at_call 156; refine (implHex1 _ _).mono ?_; rintro e w' ⟨rfl, rfl⟩)
                                go_ret2
                                exact ⟨ret_none HN.out, hb⟩
                              | some a =>
                                have y2 := hexN_some x2
                                have za := (hexV_bd x2).1
                                cases x3 : hexV s[c3] with
                                | none =>
                                  have y3 := hexN_none x3
                                  have HN := Lib.hid (rel_none HR.out (U_hex2 hc1 hc2 hc3 k0 h92 d6 x3))
                                  clear h92 hc1 hc2 hc3 d1 d2 d3 d4 d5 d6 hcut k0 x2 x3 HR
                                  go_wp2_with (go_at_call 156; refine (implHex1 _ _).mono ?_; rintro e w' ⟨rfl, rfl⟩)
                                  go_ret2
                                  exact ⟨ret_none HN.out, hb⟩
                                | some b =>
                                  have y3 := hexN_some x3
                                  have zb := (hexV_bd x3).1
                                  have i2 : (c2 : Int) < (s.size : Int) := by omega
                                  have i3 : (c3 : Int) < (s.size : Int) := by omega
                                  have HN := Lib.hid (rel_next HR.out (U_hex hc1 hc2 hc3 k0 h92 d6 x2 x3))
                                  clear h92 hc1 hc2 hc3 d1 d2 d3 d4 d5 d6 hcut k0 x2 x3 HR
                                  go_wp2_with (go_at_call 156; refine (implHex1 _ _).mono ?_; rintro e w' ⟨rfl, rfl⟩)
                                  have r1 : IntKind.i64.wrap (c2 : Int) = (c2 : Int) := IntWalk.i64_in _ (by omega)
                                  have r2 : IntKind.i64.wrap (c3 : Int) = (c3 : Int) := IntWalk.i64_in _ (by omega)
                                  have r3 : IntKind.i64.wrap ((a : Int) * 16) = (a : Int) * 16 := IntWalk.i64_in _ (by omega)
                                  have r4 : IntKind.i64.wrap ((a : Int) * 16 + (b : Int)) = (a : Int) * 16 + (b : Int) := IntWalk.i64_in _ (by omega)
                                  have r5 : IntKind.u8.wrap ((a : Int) * 16 + (b : Int)) = (a : Int) * 16 + (b : Int) := IntWalk.u8_in _ (by omega)
                                  go_region_held3 (fun _ => True) (trivial) ((first
                                    | (go_at_call 156; refine (implHex1 _ _).mono ?_; rintro e w' ⟨rfl, rfl⟩)
                                    | (refine step_append_lit rfl _ _ (by rfl) (by rfl) hown 1 (by rfl) (by simp) [UInt8.ofNat (a * 16 + b)] rfl (hexCell (by omega) _ (by omega)) (by omega) (by omega) ?_; intro v1 w1 hown1 hb1)))
                                  all_goals
                                    go_wp2
                                    go_roundw
                                    case rel => exact ⟨c3 + 1, _, congrArg (Value.int .i64) (by omega), HN, hown1, by omega, by simp; omega, hb.trans hb1⟩
                                    case measure => simp [intOf]; omega
                          · have f6 : ((s[c1].toNat : Int) == 120) = false := u8F d6
                            have HN := Lib.hid (rel_none HR.out (U_other hc1 hc2 hlt2 h92 d1 d2 (by rintro (h | h | h); exact d3 h; exact d4 h; exact d5 h) d6))
                            clear h92 hc1 hc2 d1 d2 d3 d4 d5 d6 hcut HR
                            go_wp2
                            go_ret2
                            exact ⟨ret_none HN.out, hb⟩
            · have b92 : ((s[k].toNat : Int) != 92) = true := u8nT h92
              by_cases hbad : badB q s[k] = true
              · have hbb := bad_yes hbad
                have HN := Lib.hid (rel_none HR.out (U_bad hc1 hk1 h92 hbad))
                clear h92 hc1 hbad HR
                rcases hbb with h | h | h
                all_goals
                  go_wp2
                  all_goals
                    go_ret2
                    exact ⟨ret_none HN.out, hb⟩
              · have hbb := bad_no (by simpa using hbad)
                have HN := Lib.hid (rel_next HR.out (U_plain hkk hc1 hk1 h92 (by simpa using hbad)))
                obtain ⟨g1, g2, g3⟩ := hbb
                clear h92 hc1 hbad HR
                go_wp2_with (at_builtin; refine wpList_append_lit rfl _ _ rfl rfl hown 1 rfl (by simp) [s[k]] rfl rfl (by omega) (by omega) ?_; intro v1 w1 hown1 hb1)
                go_roundw
                case rel => exact ⟨c1, _, congrArg (Value.int .i64) (by omega), HN, hown1, by omega, by simp; omega, hb.trans hb1⟩
                case measure => simp [intOf]; omega
      · have b1 : ((s[z].toNat : Int) != (q.toNat : Int)) = true := u8nT c1
        have E := Lib.hid (show unqL q s.data.toList = none from if_pos (.inr (.inr (by rw [ez]; intro h; exact c1 (Option.some.inj h)))))
        clear c0 c1 e0 ez hz
        go_enter Tryd.func136, Tryd.ntmps136
        go_wp2
        go_ret2
        exact ⟨ret_none E.out, Below.refl _ _⟩
    · have b0 : ((s[0].toNat : Int) != (q.toNat : Int)) = true := u8nT c0
      have E := Lib.hid (show unqL q s.data.toList = none from if_pos (.inr (.inl (by rw [e0]; intro h; exact c0 (Option.some.inj h)))))
      clear c0 e0 ez hz
      go_enter Tryd.func136, Tryd.ntmps136
      go_wp2
      go_ret2
      exact ⟨ret_none E.out, Below.refl _ _⟩
end Go.Proofs.YtanmkeoieckebaaDoor
