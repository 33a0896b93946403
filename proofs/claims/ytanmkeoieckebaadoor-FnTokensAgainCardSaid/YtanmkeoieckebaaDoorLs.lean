/- Proved here: what the program's Lex gives: the tokens in a slice of its own, and the line of the first fault. Condition: a text fits; the listed tables of white space and of powers of ten lie in memory. Proved here: what the reference's Lex gives: the tokens in a slice of its own, and the line of the first fault. Condition: a text fits. -/
import Derived.Test.YtanmkeoieckebaaDoorLk
import Derived.Test.YtanmkeoieckebaaDoorLxK
import Derived.Test.YtanmkeoieckebaaDoorTm
import Derived.Test.YtanmkeoieckebaaDoorLn
namespace Go.Proofs.YtanmkeoieckebaaDoor
open Go.RowKit

theorem tab_pre {w : World} {n : String} {k : IntKind} {zs : List Int} (h : Lib.TabIs Tryd.prog w n k zs) : ∀ W : World, Below w.heap.size w W → Lib.TabIs Tryd.prog W n k zs := fun _ hW => tab_kept h hW
theorem info_tk : (Tryd.prog.info? 61).map (fun i => (i.zero, i.size, i.bytes)) = some (some (.agg #[.int .i64 0, .string ⟨#[]⟩, .int .i64 0]), 3, 32) := by kernel_rfl
theorem TOwn.lit (w : World) (B : Nat) (hb : B ≤ w.heap.size) : TOwn (w.alloc (.cells #[] 61)) B (.slice (some ⟨w.heap.size, 0, none⟩) 0 0) [] := by
  exact World.ownsRow_lit (base := B) (e := 61) (size := 3) w #[] 0 hb (by simp [maxLen]) rfl
/-- append of one token, written out, to tokens of the call's own. -/
theorem wpList_append_t {ops : Array Oper} {rest : List Oper} {o : Oper} {a : Act} {Q : Exit → Act → World → Prop} {w : World} {cs : Array Value} (hgd : o.guard = none) (s x : Operand)
    (ho : o.op = .call { callee := .builtin .append, args := #[s, x], argTypes := #[52, 52] })
    {B : Nat} {v : Value} {l : List Tk} (hs : a.eval s = v) (hown : TOwn w B v l) {g : Nat} (hx : a.eval x = .slice (some ⟨g, 0, none⟩) 1 1) (hg : g = w.heap.size)
    (y : Tk) (hcs : cs.toList = tkC y) (hlen : l.length ≤ 1099511627776) (hB : B ≤ w.heap.size)
    (h : ∀ g' cap' w', TOwn w' B (.slice (some ⟨g', 0, none⟩) (l.length + 1) cap') (l ++ [y]) → Below B w w' → w.grownBy w' v.ownBlock → wpList Tryd.prog ops Q rest (a.put o.dst (.slice (some ⟨g', 0, none⟩) (l.length + 1) cap')) w') :
    wpList Tryd.prog ops Q (o :: rest) a (w.alloc (.cells cs 61)) := by
  refine wpList_append_g info_tk rfl (by omega) Tryd.underlying52 hgd s x ho hs hown hx hg (tkC y) hcs rfl (tkC_one y) (by unfold maxLen; omega) (by omega) hB fun g' cap' w' h1 h2 _ => h g' cap' w' ?_ ?_ h2
  · unfold TOwn; rw [flat_snoc, List.length_append]
    simpa [tkC] using h1
  · exact below_grown (Below.refl _ _) hB h2 fun k hk => (hown.lt k hk).1
set_option maxRecDepth 20000 in
set_option maxHeartbeats 16000000 in
theorem implLex (s : ByteArray) (hs0 : s.size ≤ 1048576) (w : World) (hT : Lib.TabIs Tryd.prog w "strings.asciiSpace" .u8 Lib.asciiSpaceTab) (hT2 : Lib.TabIs Tryd.prog w "internal/strconv.uint64pow10" .u64 Lib.pow10Tab) :
    Calls Tryd.prog 26 #[.string s] w fun e w' => ∃ v, e = .returned (.tuple #[v, .int .i64 ((lexT s).2 : Int)]) ∧ TOwn w' w.heap.size v (lexT s).1 ∧ Below w.heap.size w w' := by
  by_cases hs : s.size ≤ 6000
  · have HR0 := Lib.hid (show lexT s = lexL KK s.data.toList 1 false [] from if_neg (by omega))
    have HT := Lib.hid (tab_pre hT)
    have HT2 := Lib.hid (tab_pre hT2)
    clear hT hT2
    have HL0 := Lib.hid (TOwn.lit w w.heap.size (Nat.le_refl _))
    go_enter Tryd.func26, Tryd.ntmps26
    go_wp2_with fail
    go_loopw [4, 5, 6, 7] (fun o l f i wr => ∃ (L m : Nat) (fd : Bool) (out : List Tk), i = .int .i64 m ∧ l = .int .i64 L ∧ f = .bool fd ∧ Hid (lexL KK (s.data.toList.drop m) L fd out = lexT s) ∧ TOwn wr w.heap.size o out ∧ m ≤ s.size ∧ L ≤ m + 1 ∧ out.length ≤ 2 * m ∧ Below w.heap.size w wr)
      (fun _ _ _ i _ => s.size - (intOf i).toNat)
    case atStart => exact ⟨1, 0, false, [], rfl, rfl, rfl, Lib.hid (by rw [HR0.out, List.drop_zero]), HL0.out, by omega, by omega, by simp, (Below.refl _ _).alloc (Nat.le_refl _) _⟩
    case round =>
      obtain ⟨L, m, fd, out, rfl, rfl, rfl, HR, hown, hm, hLm, hol, hb⟩ := hrel
      have hsz := hb.size
      obtain ⟨A, cap, rfl⟩ := hown.form
      clear HR0 HL0
      by_cases hmz : s.size ≤ m
      · have HN := Lib.hid (show lexT s = (out, 0) by rw [← HR.out]; exact L_end (by omega) _ _ _)
        clear HR
        have HO := Lib.hid hown
        clear hown
        have im : decide ((m : Int) < (s.size : Int)) = false := decide_eq_false (by omega)
        go_wp2_with fail
        go_ret2
        exact ⟨_, by rw [HN.out]; rfl, by rw [HN.out]; exact HO.out, hb⟩
      have hlt : m < s.size := by omega
      have im : (m : Int) < (s.size : Int) := by omega
      have hmb := byte_bd s[m]
      by_cases e10 : s[m] = 10
      · have b10 : ((s[m].toNat : Int) == 10) = true := u8T e10
        have HN := Lib.hid (show lexL KK (s.data.toList.drop (m + 1)) (L + 1) true out = lexT s by rw [← HR.out]; exact (L_nl hlt e10 _ _ _).symm)
        have HO := Lib.hid hown
        clear HR e10 hown
        go_wp2_with fail
        go_roundw
        case rel => exact ⟨L + 1, m + 1, true, out, by go_num, by go_num, rfl, HN, HO.out, by omega, by omega, by omega, hb⟩
        case measure => simp [intOf]; omega
      have b10 : ((s[m].toNat : Int) == 10) = false := u8F e10
      by_cases e32 : s[m] = 32
      · have b32 : ((s[m].toNat : Int) == 32) = true := u8T e32
        have HN := Lib.hid (show lexL KK (s.data.toList.drop (m + 1)) L fd out = lexT s by rw [← HR.out]; exact (L_bl hlt (.inl e32) _ _ _).symm)
        have HO := Lib.hid hown
        clear HR e10 e32 hown
        go_wp2_with fail
        go_roundw
        case rel => exact ⟨L, m + 1, fd, out, by go_num, rfl, rfl, HN, HO.out, by omega, by omega, by omega, hb⟩
        case measure => simp [intOf]; omega
      have b32 : ((s[m].toNat : Int) == 32) = false := u8F e32
      by_cases e9 : s[m] = 9
      · have b9 : ((s[m].toNat : Int) == 9) = true := u8T e9
        have HN := Lib.hid (show lexL KK (s.data.toList.drop (m + 1)) L fd out = lexT s by rw [← HR.out]; exact (L_bl hlt (.inr e9) _ _ _).symm)
        have HO := Lib.hid hown
        clear HR e10 e32 e9 hown
        go_wp2_with fail
        go_roundw
        case rel => exact ⟨L, m + 1, fd, out, by go_num, rfl, rfl, HN, HO.out, by omega, by omega, by omega, hb⟩
        case measure => simp [intOf]; omega
      have b9 : ((s[m].toNat : Int) == 9) = false := u8F e9
      by_cases e35 : s[m] = 35
      · have b35 : ((s[m].toNat : Int) == 35) = true := u8T e35
        have HN := Lib.hid (show lexL KK (s.data.toList.drop (cmE s m)) L fd out = lexT s by rw [← HR.out]; exact (L_cm hlt e35 _ _ _).symm)
        have hE1 : m + 1 ≤ cmE s m := by unfold cmE; rw [eo_one hlt (by rw [e35]; decide)]; exact eo_ge _ _ _
        have hE2 : cmE s m ≤ s.size := eo_le (by omega)
        have HIn := Lib.hid (fun n (ha : m ≤ n) (h : n < cmE s m) => eo_in (p := fun x => x != 10) (s := s) ha h)
        have HSt := Lib.hid (fun h => eo_stop (p := fun x => x != 10) (s := s) (i := m) h)
        obtain ⟨E, hE⟩ : ∃ E, E = cmE s m := ⟨_, rfl⟩
        rw [← hE] at hE1 hE2 HN HIn
        have HEE := Lib.hid hE
        have HO := Lib.hid hown
        clear HR e10 e32 e9 e35 hown hE
        go_wp2_with fail
        go_loop [7] (fun i => ∃ n : Nat, i = .int .i64 n ∧ m ≤ n ∧ n ≤ E) (fun i => E - (intOf i).toNat)
        case atStart => exact ⟨m, rfl, by omega, by omega⟩
        case round =>
          obtain ⟨n, rfl, hn1, hn2⟩ := hrel
          by_cases hne : n < E
          · obtain ⟨hns, hp⟩ := HIn.out n hn1 hne
            have i0 : (n : Int) < (s.size : Int) := by omega
            have hn8 := byte_bd s[n]
            have g10 : ((s[n].toNat : Int) != 10) = true := u8nT (by simpa using hp)
            clear hp
            go_wp2_with fail
            go_round
            case rel => exact ⟨n + 1, by go_num, by omega, by omega⟩
            case measure => simp [intOf]; omega
          · obtain rfl : n = E := by omega
            have hcase : (¬ n < s.size) ∨ ∃ h : n < s.size, ((s[n].toNat : Int) != 10) = false := by
              rcases Nat.lt_or_ge n s.size with h | h
              · have h2 : endOf (fun x => x != 10) s m < s.size := by have := HEE.out; unfold cmE at this; omega
                have h3 := HSt.out h2
                have h4 := HEE.out
                unfold cmE at h4
                simp only [← h4] at h3
                have h5 : s[n] = 10 := by simpa using h3
                exact .inr ⟨h, by rw [h5]; rfl⟩
              · exact .inl (by omega)
            rcases hcase with h1 | ⟨h1, h2⟩
            · have i0 : decide ((n : Int) < (s.size : Int)) = false := decide_eq_false (by omega)
              go_wp2_with fail
              go_roundw
              case rel => exact ⟨L, n, fd, out, rfl, rfl, rfl, HN, HO.out, by omega, by omega, by omega, hb⟩
              case measure => simp [intOf]; omega
            · have i0 : (n : Int) < (s.size : Int) := by omega
              have hn8 := byte_bd s[n]
              go_wp2_with fail
              go_roundw
              case rel => exact ⟨L, n, fd, out, rfl, rfl, rfl, HN, HO.out, by omega, by omega, by omega, hb⟩
              case measure => simp [intOf]; omega
      have b35 : ((s[m].toNat : Int) == 35) = false := u8F e35
      obtain ⟨X, hX⟩ : ∃ X, X = s.extract m s.size := ⟨_, rfl⟩
      have hXl : X.data.toList = s.data.toList.drop m := by rw [hX, ext_drop]
      have hXX : s.extract m s.size = X := hX.symm
      have hXs : X.size = s.size - m := by rw [hX, ByteArray.size_extract]; omega
      have hC0 := fun (W : World) (hW : Below w.heap.size w W) => lexOne X (by omega) (by omega) W (HT.out W hW) (HT2.out W hW)
      rw [hXl] at hC0
      cases ho : lex1 KK (s.data.toList.drop m) with
      | none =>
        have HN := Lib.hid (show lexT s = ([], L) by rw [← HR.out]; exact L_no hlt e10 (by rintro (h | h); exact e32 h; exact e9 h) e35 ho _ _ _)
        rw [ho] at hC0
        have hC : ∀ W : World, Below w.heap.size w W → Calls Tryd.prog 58 #[.string X] W fun e w' => ∃ k t, e = .returned (.tuple #[.agg #[.int .i64 k, .string t, .int .i64 0], .int .i64 0]) ∧ Below W.heap.size W w' := fun W hW => (hC0 W hW).mono fun e w' ⟨⟨k, t, h1⟩, h2⟩ => ⟨k, t, h1, h2⟩
        clear HR hC0 ho e10 e32 e9 e35 hown hX hXl hXs
        go_wp2_with (go_at_call 58; refine (hC _ (by exact hb)).mono ?_; rintro e w1 ⟨k1, t1, rfl, hb1⟩)
        go_ret2
        exact ⟨.slice none 0 0, by rw [HN.out]; rfl, by rw [HN.out]; exact TOwn.nil _ _, (hb.trans (hb1.mono hsz)).alloc (by have := hb1.size; omega) _⟩
      | some p =>
        obtain ⟨k, t, n⟩ := p
        obtain ⟨-, hn1, hn2, -⟩ := lex1_good kkOk ho
        rw [List.length_drop, show s.data.toList.length = s.size from rfl] at hn2
        have HL := Lib.hid (L_tok hlt e10 (by rintro (h | h); exact e32 h; exact e9 h) e35 ho L fd out)
        rw [ho] at hC0
        obtain ⟨m2, hm2⟩ : ∃ x, x = m + n := ⟨_, rfl⟩
        rw [← hm2] at HL
        have im2 : (m : Int) + (n : Int) = (m2 : Int) := by omega
        have hn0 : ((n : Int) == 0) = false := by rw [beq_eq_false_iff_ne]; omega
        have hC : ∀ W : World, Below w.heap.size w W → Calls Tryd.prog 58 #[.string X] W fun e w' => e = .returned (.tuple #[.agg #[.int .i64 k, .string (mkT t), .int .i64 0], .int .i64 (n : Int)]) ∧ Below W.heap.size W w' := hC0
        have HY := Lib.hid (show tkC ⟨k, t, L⟩ = [.int .i64 k, .string (mkT t), .int .i64 (L : Int)] from rfl)
        have hBg : ∀ (W : World) (lz : Int), Below w.heap.size w W → Calls Tryd.prog 60 #[.agg #[.int .i64 k, .string (mkT t), .int .i64 lz]] W fun e w' => e = .returned (.bool (rBeg k (mkT t))) ∧ Below W.heap.size W w' := fun W lz hW => implBeg k (mkT t) lz W (HT.out W hW)
        obtain ⟨T, hTT⟩ : ∃ T, T = mkT t := ⟨_, rfl⟩
        have HTT := Lib.hid hTT
        obtain ⟨bg, hbg⟩ : ∃ x, x = rBeg k (mkT t) := ⟨_, rfl⟩
        have HBG := Lib.hid hbg
        rw [← hbg, ← hTT] at hBg
        rw [← hTT] at hC HY
        have HRR := Lib.hid (HR.out)
        have hm2s : m2 ≤ s.size := by omega
        have hm2m : m + 1 ≤ m2 := by omega
        clear HR hC0 ho e10 e32 e9 e35 hX hXl hXs hTT hbg hn2 hm2
        cases fd with
        | false =>
          have HN := Lib.hid (show lexL KK (s.data.toList.drop m2) L false (out ++ [⟨k, t, L⟩]) = lexT s by rw [← HRR.out, HL.out, sep_no, List.append_nil])
          clear HL HRR hBg
          go_wp2_with (first
            | (go_at_call 58; refine (hC _ (by exact hb)).mono ?_; rintro e w1 ⟨rfl, hb1⟩; have hbb := hb.trans (hb1.mono hsz); have hzz := hbb.size; have ow := hown.kept hb1)
            | (at_builtin; refine wpList_append_t rfl _ _ rfl rfl (ow.kept (by repeat (first | exact Below.refl _ _ | refine Below.drew ?_ | refine Below.setCell ?_ (by (try simp); try omega) _ | refine Below.alloc ?_ (by (try simp); try omega) _))) rfl (by first | rfl | simp) ⟨k, t, L⟩ (HY.out.symm) (by omega) (by (try simp); omega) ?_; intro g' cap' w4 ho2 hbw hgr))
          go_roundw
          case rel => exact ⟨L, m2, false, out ++ [⟨k, t, L⟩], rfl, rfl, rfl, HN, by simpa using ho2, hm2s, by omega, by simp; omega, Below.trans (by repeat (first | exact hbb | refine Below.drew ?_ | refine Below.setCell ?_ (by (try simp); try omega) _ | refine Below.alloc ?_ (by (try simp); try omega) _)) hbw⟩
          case measure => simp [intOf]; omega
        | true =>
          by_cases hz0 : out.length = 0
          · obtain rfl : out = [] := List.eq_nil_of_length_eq_zero hz0
            have HN := Lib.hid (show lexL KK (s.data.toList.drop m2) L false ([] ++ [⟨k, t, L⟩]) = lexT s by rw [← HRR.out, HL.out, sep_nil, List.append_nil])
            clear HL HRR hBg hz0
            go_wp2_with (first
              | (go_at_call 58; refine (hC _ (by exact hb)).mono ?_; rintro e w1 ⟨rfl, hb1⟩; have hbb := hb.trans (hb1.mono hsz); have hzz := hbb.size; have ow := hown.kept hb1)
              | (at_builtin; refine wpList_append_t rfl _ _ rfl rfl (ow.kept (by repeat (first | exact Below.refl _ _ | refine Below.drew ?_ | refine Below.setCell ?_ (by (try simp); try omega) _ | refine Below.alloc ?_ (by (try simp); try omega) _))) rfl (by first | rfl | simp) ⟨k, t, L⟩ (HY.out.symm) (by omega) (by (try simp); omega) ?_; intro g' cap' w4 ho2 hbw hgr))
            go_roundw
            case rel => exact ⟨L, m2, false, [] ++ [⟨k, t, L⟩], rfl, rfl, rfl, HN, by simpa using ho2, hm2s, by omega, by simp; omega, Below.trans (by repeat (first | exact hbb | refine Below.drew ?_ | refine Below.setCell ?_ (by (try simp); try omega) _ | refine Below.alloc ?_ (by (try simp); try omega) _)) hbw⟩
            case measure => simp [intOf]; omega
          · obtain ⟨j, hj⟩ : ∃ j, j + 1 = out.length := ⟨out.length - 1, by omega⟩
            have hjl : j < out.length := by omega
            obtain ⟨g, rfl, hgb, c0, c1, c2⟩ := TOwn.at_ hown hjl
            have HS := Lib.hid (sep_last (fed := true) hjl hj (k := k) (t := t))
            have hEn : ∀ W : World, Below w.heap.size w W → Calls Tryd.prog 59 #[.agg #[.int .i64 out[j].k, .string (mkT out[j].t), .int .i64 (out[j].l : Int)]] W fun e w' => e = .returned (.bool (rEnd out[j].k (mkT out[j].t))) ∧ Below W.heap.size W w' := fun W hW => by
              exact implEnd _ _ _ W (HT.out W hW)
            obtain ⟨en, hen⟩ : ∃ x, x = rEnd out[j].k (mkT out[j].t) := ⟨_, rfl⟩
            rw [← hen] at HS hEn
            rw [← HBG.out] at HS
            obtain ⟨lz, hlz⟩ : ∃ x, x = out[j].l := ⟨_, rfl⟩
            rw [← hlz] at HS hEn c2
            generalize out[j].k = k0 at hEn c0
            generalize mkT out[j].t = q0 at hEn c1
            obtain ⟨Z, hZ⟩ : ∃ Z, Z = out.length := ⟨_, rfl⟩
            have hown' := hown
            have HZ := Lib.hid hZ
            rw [← hZ] at hown' hol hj hjl
            have iZ : (Z : Int) - 1 = (j : Int) := by omega
            have iZ0 : decide ((0 : Int) < (Z : Int)) = true := decide_eq_true (by omega)
            have iZj : (j : Int) < (Z : Int) := by omega
            clear hz0 hen hlz hown
            rw [← hZ]
            clear hZ
            have ownZ : ∀ {W : World} {c : Nat} {o2 : List Tk} {A2 : Option Addr}, TOwn W w.heap.size (.slice A2 Z c) o2 → True := fun _ => trivial
            cases en with
            | false =>
              have HN := Lib.hid (show lexL KK (s.data.toList.drop m2) L false (out ++ [⟨k, t, L⟩]) = lexT s by rw [← HRR.out, HL.out, HS.out]; simp)
              clear HL HRR hBg HS
              go_wp2_with (first
                | (go_at_call 58; refine (hC _ (by exact hb)).mono ?_; rintro e w1 ⟨rfl, hb1⟩; have hbb := hb.trans (hb1.mono hsz); have hzz := hbb.size; have ow := hown'.kept hb1; have d0 := kc1 hb1 c0; have d1 := kc1 hb1 c1; have d2 := kc1 hb1 c2; have hz1 := hb1.size; have hgw : g < w1.heap.size := (by omega))
                | (go_at_call 59; refine (hEn _ (by repeat (first | exact hbb | refine Below.drew ?_ | refine Below.setCell ?_ (by (try simp); try omega) _ | refine Below.alloc ?_ (by (try simp); try omega) _))).mono ?_; rintro e w2 ⟨rfl, hb2⟩; have d0 := kc1 hb2 (v := .int .i64 k0) (p := ⟨g, j * 3, none⟩) (by go_simp); have d1 := kc1 hb2 (v := .string q0) (p := ⟨g, j * 3 + 1, none⟩) (by go_simp); have d2 := kc1 hb2 (v := .int .i64 (lz : Int)) (p := ⟨g, j * 3 + 2, none⟩) (by go_simp); have hgw : g < w2.heap.size := (by have := hb2.size; (try simp at this); omega); have hRt := Blk.kept (g := w1.heap.size) (t := 61) (cs := #[.int .i64 k, .string T, .int .i64 (L : Int)]) (by first | exact Blk.new _ _ _ | exact Blk.set_ (Blk.new _ _ _) 2 _) hb2; have t0 := hRt.cell 0; have t1 := hRt.cell 1; have t2 := hRt.cell 2; have hRl := hRt.lt; simp at t0 t1 t2; have ow := ow.kept (by have := hb2; refine Below.trans (by repeat (first | exact Below.refl _ _ | refine Below.drew ?_ | refine Below.setCell ?_ (by (try simp); try omega) _ | refine Below.alloc ?_ (by (try simp); try omega) _) : Below w1.heap.size w1 _) (hb2.mono (by simp))); have hbb := growT (w := w) (by repeat (first | exact hbb | refine Below.drew ?_ | refine Below.setCell ?_ (by (try simp); try omega) _ | refine Below.alloc ?_ (by (try simp); try omega) _)) hb2; have hzz := hbb.size)
                | (at_builtin; refine wpList_append_t rfl _ _ rfl rfl (ow) rfl (by first | rfl | simp) ⟨k, t, L⟩ (HY.out.symm) (by have := HZ.out; omega) (by (try simp); omega) ?_; intro g' cap' w4 ho2 hbw hgr))
              go_roundw
              case rel => exact ⟨L, m2, false, out ++ [⟨k, t, L⟩], rfl, rfl, rfl, HN, by have := HZ.out; subst this; simpa using ho2, hm2s, by omega, by simp; have := HZ.out; omega, hbb.trans hbw⟩
              case measure => simp [intOf]; omega
            | true =>
              cases bg with
              | false =>
                have HN := Lib.hid (show lexL KK (s.data.toList.drop m2) L false (out ++ [⟨k, t, L⟩]) = lexT s by rw [← HRR.out, HL.out, HS.out]; simp)
                clear HL HRR HS
                go_wp2_with (first
                  | (go_at_call 58; refine (hC _ (by exact hb)).mono ?_; rintro e w1 ⟨rfl, hb1⟩; have hbb := hb.trans (hb1.mono hsz); have hzz := hbb.size; have ow := hown'.kept hb1; have d0 := kc1 hb1 c0; have d1 := kc1 hb1 c1; have d2 := kc1 hb1 c2; have hz1 := hb1.size; have hgw : g < w1.heap.size := (by omega))
                  | (go_at_call 59; refine (hEn _ (by repeat (first | exact hbb | refine Below.drew ?_ | refine Below.setCell ?_ (by (try simp); try omega) _ | refine Below.alloc ?_ (by (try simp); try omega) _))).mono ?_; rintro e w2 ⟨rfl, hb2⟩; have d0 := kc1 hb2 (v := .int .i64 k0) (p := ⟨g, j * 3, none⟩) (by go_simp); have d1 := kc1 hb2 (v := .string q0) (p := ⟨g, j * 3 + 1, none⟩) (by go_simp); have d2 := kc1 hb2 (v := .int .i64 (lz : Int)) (p := ⟨g, j * 3 + 2, none⟩) (by go_simp); have hgw : g < w2.heap.size := (by have := hb2.size; (try simp at this); omega); have hRt := Blk.kept (g := w1.heap.size) (t := 61) (cs := #[.int .i64 k, .string T, .int .i64 (L : Int)]) (by first | exact Blk.new _ _ _ | exact Blk.set_ (Blk.new _ _ _) 2 _) hb2; have t0 := hRt.cell 0; have t1 := hRt.cell 1; have t2 := hRt.cell 2; have hRl := hRt.lt; simp at t0 t1 t2; have ow := ow.kept (by have := hb2; refine Below.trans (by repeat (first | exact Below.refl _ _ | refine Below.drew ?_ | refine Below.setCell ?_ (by (try simp); try omega) _ | refine Below.alloc ?_ (by (try simp); try omega) _) : Below w1.heap.size w1 _) (hb2.mono (by simp))); have hbb := growT (w := w) (by repeat (first | exact hbb | refine Below.drew ?_ | refine Below.setCell ?_ (by (try simp); try omega) _ | refine Below.alloc ?_ (by (try simp); try omega) _)) hb2; have hzz := hbb.size)
                  | (go_at_call 60; refine (hBg _ _ hbb).mono ?_; rintro e w3 ⟨rfl, hb3⟩; have d0 := kc1 hb3 (v := .int .i64 k0) (p := ⟨g, j * 3, none⟩) (by go_simp); have d1 := kc1 hb3 (v := .string q0) (p := ⟨g, j * 3 + 1, none⟩) (by go_simp); have d2 := kc1 hb3 (v := .int .i64 (lz : Int)) (p := ⟨g, j * 3 + 2, none⟩) (by go_simp); have hgw : g < w3.heap.size := (by have := hb3.size; (try simp at this); omega); have hRt := hRt.kept hb3; have t0 := hRt.cell 0; have t1 := hRt.cell 1; have t2 := hRt.cell 2; have hRl := hRt.lt; simp at t0 t1 t2; have ow := ow.kept hb3; have hbb := hbb.trans (hb3.mono hzz); have hzz := hbb.size)
                  | (at_builtin; refine wpList_append_t rfl _ _ rfl rfl (ow) rfl (by first | rfl | simp) ⟨k, t, L⟩ (HY.out.symm) (by have := HZ.out; omega) (by (try simp); omega) ?_; intro g' cap' w4 ho2 hbw hgr))
                go_roundw
                case rel => exact ⟨L, m2, false, out ++ [⟨k, t, L⟩], rfl, rfl, rfl, HN, by have := HZ.out; subst this; simpa using ho2, hm2s, by omega, by simp; have := HZ.out; omega, hbb.trans hbw⟩
                case measure => simp [intOf]; omega
              | true =>
                have HN := Lib.hid (show lexL KK (s.data.toList.drop m2) L false (out ++ [⟨7, [59], lz⟩] ++ [⟨k, t, L⟩]) = lexT s by rw [← HRR.out, HL.out, HS.out]; simp)
                clear HL HRR HS
                go_wp2_with (first
                  | (go_at_call 58; refine (hC _ (by exact hb)).mono ?_; rintro e w1 ⟨rfl, hb1⟩; have hbb := hb.trans (hb1.mono hsz); have hzz := hbb.size; have ow := hown'.kept hb1; have d0 := kc1 hb1 c0; have d1 := kc1 hb1 c1; have d2 := kc1 hb1 c2; have hz1 := hb1.size; have hgw : g < w1.heap.size := (by omega))
                  | (go_at_call 59; refine (hEn _ (by repeat (first | exact hbb | refine Below.drew ?_ | refine Below.setCell ?_ (by (try simp); try omega) _ | refine Below.alloc ?_ (by (try simp); try omega) _))).mono ?_; rintro e w2 ⟨rfl, hb2⟩; have d0 := kc1 hb2 (v := .int .i64 k0) (p := ⟨g, j * 3, none⟩) (by go_simp); have d1 := kc1 hb2 (v := .string q0) (p := ⟨g, j * 3 + 1, none⟩) (by go_simp); have d2 := kc1 hb2 (v := .int .i64 (lz : Int)) (p := ⟨g, j * 3 + 2, none⟩) (by go_simp); have hgw : g < w2.heap.size := (by have := hb2.size; (try simp at this); omega); have hRt := Blk.kept (g := w1.heap.size) (t := 61) (cs := #[.int .i64 k, .string T, .int .i64 (L : Int)]) (by first | exact Blk.new _ _ _ | exact Blk.set_ (Blk.new _ _ _) 2 _) hb2; have t0 := hRt.cell 0; have t1 := hRt.cell 1; have t2 := hRt.cell 2; have hRl := hRt.lt; simp at t0 t1 t2; have ow := ow.kept (by have := hb2; refine Below.trans (by repeat (first | exact Below.refl _ _ | refine Below.drew ?_ | refine Below.setCell ?_ (by (try simp); try omega) _ | refine Below.alloc ?_ (by (try simp); try omega) _) : Below w1.heap.size w1 _) (hb2.mono (by simp))); have hbb := growT (w := w) (by repeat (first | exact hbb | refine Below.drew ?_ | refine Below.setCell ?_ (by (try simp); try omega) _ | refine Below.alloc ?_ (by (try simp); try omega) _)) hb2; have hzz := hbb.size)
                  | (go_at_call 60; refine (hBg _ _ hbb).mono ?_; rintro e w3 ⟨rfl, hb3⟩; have d0 := kc1 hb3 (v := .int .i64 k0) (p := ⟨g, j * 3, none⟩) (by go_simp); have d1 := kc1 hb3 (v := .string q0) (p := ⟨g, j * 3 + 1, none⟩) (by go_simp); have d2 := kc1 hb3 (v := .int .i64 (lz : Int)) (p := ⟨g, j * 3 + 2, none⟩) (by go_simp); have hgw : g < w3.heap.size := (by have := hb3.size; (try simp at this); omega); have hRt := hRt.kept hb3; have t0 := hRt.cell 0; have t1 := hRt.cell 1; have t2 := hRt.cell 2; have hRl := hRt.lt; simp at t0 t1 t2; have ow := ow.kept hb3; have hbb := hbb.trans (hb3.mono hzz); have hzz := hbb.size)
                  | (at_builtin; have tok := ho1; refine wpList_append_t rfl _ _ rfl rfl (ho1) rfl (by first | rfl | simp) ⟨k, t, L⟩ (HY.out.symm) (by have := HZ.out; (try simp); omega) (by (try simp); omega) ?_; intro g' cap' w4 ho2 hbw hgr)
                  | (at_builtin; refine wpList_append_t rfl _ _ rfl rfl (ow) rfl (by first | rfl | simp) ⟨7, [59], lz⟩ (by rfl) (by have := HZ.out; omega) (by (try simp); omega) ?_; intro g' cap' w4 ho1 hbw1 hgr1; have hRt := hRt.grown hgr1 (show some w1.heap.size ≠ (Value.slice (some ⟨g, 0, none⟩) Z cap).ownBlock by simp [Value.ownBlock]; omega); have t0 := hRt.cell 0; have t1 := hRt.cell 1; have t2 := hRt.cell 2; have hRl := hRt.lt; simp at t0 t1 t2; have hbb := hbb.trans hbw1; have hzz := hbb.size))
                go_roundw
                case rel => exact ⟨L, m2, false, out ++ [⟨7, [59], lz⟩] ++ [⟨k, t, L⟩], rfl, rfl, rfl, HN, by have := HZ.out; subst this; simpa using ho2, hm2s, by omega, by simp; have := HZ.out; omega, hbb.trans hbw⟩
                case measure => simp [intOf]; omega
  · have HN := Lib.hid (show lexT s = ([], 1) from if_pos (by omega))
    have b0 : decide ((6000 : Int) < (s.size : Int)) = true := decide_eq_true (by omega)
    clear hT hT2
    go_enter Tryd.func26, Tryd.ntmps26
    go_wp2_with fail
    go_ret2
    exact ⟨.slice none 0 0, by rw [HN.out]; rfl, by rw [HN.out]; exact TOwn.nil _ _, Below.refl _ _⟩
end Go.Proofs.YtanmkeoieckebaaDoor

namespace Go.Proofs.YtanmkeoieckebaaDoor
open Go.RowKit

set_option maxRecDepth 20000 in
set_option maxHeartbeats 16000000 in
theorem specLex (s : ByteArray) (hs0 : s.size ≤ 1048576) (w : World) :
    Calls Tryd.prog 25 #[.string s] w fun e w' => ∃ v, e = .returned (.tuple #[v, .int .i64 ((lexT s).2 : Int)]) ∧ TOwn w' w.heap.size v (lexT s).1 ∧ Below w.heap.size w w' := by
  by_cases hs : s.size ≤ 6000
  · have HR0 := Lib.hid (show lexT s = lexL KK s.data.toList 1 false [] from if_neg (by omega))
    have HL0 := Lib.hid (TOwn.lit w w.heap.size (Nat.le_refl _))
    go_enter Tryd.func25, Tryd.ntmps25
    go_wp2_with fail
    go_loopw [4, 5, 6, 7] (fun o l f i wr => ∃ (L m : Nat) (fd : Bool) (out : List Tk), i = .int .i64 m ∧ l = .int .i64 L ∧ f = .bool fd ∧ Hid (lexL KK (s.data.toList.drop m) L fd out = lexT s) ∧ TOwn wr w.heap.size o out ∧ m ≤ s.size ∧ L ≤ m + 1 ∧ out.length ≤ 2 * m ∧ Below w.heap.size w wr)
      (fun _ _ _ i _ => s.size - (intOf i).toNat)
    case atStart => exact ⟨1, 0, false, [], rfl, rfl, rfl, Lib.hid (by rw [HR0.out, List.drop_zero]), HL0.out, by omega, by omega, by simp, (Below.refl _ _).alloc (Nat.le_refl _) _⟩
    case round =>
      obtain ⟨L, m, fd, out, rfl, rfl, rfl, HR, hown, hm, hLm, hol, hb⟩ := hrel
      have hsz := hb.size
      obtain ⟨A, cap, rfl⟩ := hown.form
      clear HR0 HL0
      by_cases hmz : s.size ≤ m
      · have HN := Lib.hid (show lexT s = (out, 0) by rw [← HR.out]; exact L_end (by omega) _ _ _)
        clear HR
        have HO := Lib.hid hown
        clear hown
        have im : decide ((m : Int) < (s.size : Int)) = false := decide_eq_false (by omega)
        go_wp2_with fail
        go_ret2
        exact ⟨_, by rw [HN.out]; rfl, by rw [HN.out]; exact HO.out, hb⟩
      have hlt : m < s.size := by omega
      have im : (m : Int) < (s.size : Int) := by omega
      have hmb := byte_bd s[m]
      by_cases e10 : s[m] = 10
      · have b10 : ((s[m].toNat : Int) == 10) = true := u8T e10
        have HN := Lib.hid (show lexL KK (s.data.toList.drop (m + 1)) (L + 1) true out = lexT s by rw [← HR.out]; exact (L_nl hlt e10 _ _ _).symm)
        have HO := Lib.hid hown
        clear HR e10 hown
        go_wp2_with fail
        go_roundw
        case rel => exact ⟨L + 1, m + 1, true, out, by go_num, by go_num, rfl, HN, HO.out, by omega, by omega, by omega, hb⟩
        case measure => simp [intOf]; omega
      have b10 : ((s[m].toNat : Int) == 10) = false := u8F e10
      by_cases e32 : s[m] = 32
      · have b32 : ((s[m].toNat : Int) == 32) = true := u8T e32
        have HN := Lib.hid (show lexL KK (s.data.toList.drop (m + 1)) L fd out = lexT s by rw [← HR.out]; exact (L_bl hlt (.inl e32) _ _ _).symm)
        have HO := Lib.hid hown
        clear HR e10 e32 hown
        go_wp2_with fail
        go_roundw
        case rel => exact ⟨L, m + 1, fd, out, by go_num, rfl, rfl, HN, HO.out, by omega, by omega, by omega, hb⟩
        case measure => simp [intOf]; omega
      have b32 : ((s[m].toNat : Int) == 32) = false := u8F e32
      by_cases e9 : s[m] = 9
      · have b9 : ((s[m].toNat : Int) == 9) = true := u8T e9
        have HN := Lib.hid (show lexL KK (s.data.toList.drop (m + 1)) L fd out = lexT s by rw [← HR.out]; exact (L_bl hlt (.inr e9) _ _ _).symm)
        have HO := Lib.hid hown
        clear HR e10 e32 e9 hown
        go_wp2_with fail
        go_roundw
        case rel => exact ⟨L, m + 1, fd, out, by go_num, rfl, rfl, HN, HO.out, by omega, by omega, by omega, hb⟩
        case measure => simp [intOf]; omega
      have b9 : ((s[m].toNat : Int) == 9) = false := u8F e9
      by_cases e35 : s[m] = 35
      · have b35 : ((s[m].toNat : Int) == 35) = true := u8T e35
        have HN := Lib.hid (show lexL KK (s.data.toList.drop (cmE s m)) L fd out = lexT s by rw [← HR.out]; exact (L_cm hlt e35 _ _ _).symm)
        have hE1 : m + 1 ≤ cmE s m := by unfold cmE; rw [eo_one hlt (by rw [e35]; decide)]; exact eo_ge _ _ _
        have hE2 : cmE s m ≤ s.size := eo_le (by omega)
        have HIn := Lib.hid (fun n (ha : m ≤ n) (h : n < cmE s m) => eo_in (p := fun x => x != 10) (s := s) ha h)
        have HSt := Lib.hid (fun h => eo_stop (p := fun x => x != 10) (s := s) (i := m) h)
        obtain ⟨E, hE⟩ : ∃ E, E = cmE s m := ⟨_, rfl⟩
        rw [← hE] at hE1 hE2 HN HIn
        have HEE := Lib.hid hE
        have HO := Lib.hid hown
        clear HR e10 e32 e9 e35 hown hE
        go_wp2_with fail
        go_loop [7] (fun i => ∃ n : Nat, i = .int .i64 n ∧ m ≤ n ∧ n ≤ E) (fun i => E - (intOf i).toNat)
        case atStart => exact ⟨m, rfl, by omega, by omega⟩
        case round =>
          obtain ⟨n, rfl, hn1, hn2⟩ := hrel
          by_cases hne : n < E
          · obtain ⟨hns, hp⟩ := HIn.out n hn1 hne
            have i0 : (n : Int) < (s.size : Int) := by omega
            have hn8 := byte_bd s[n]
            have g10 : ((s[n].toNat : Int) != 10) = true := u8nT (by simpa using hp)
            clear hp
            go_wp2_with fail
            go_round
            case rel => exact ⟨n + 1, by go_num, by omega, by omega⟩
            case measure => simp [intOf]; omega
          · obtain rfl : n = E := by omega
            have hcase : (¬ n < s.size) ∨ ∃ h : n < s.size, ((s[n].toNat : Int) != 10) = false := by
              rcases Nat.lt_or_ge n s.size with h | h
              · have h2 : endOf (fun x => x != 10) s m < s.size := by have := HEE.out; unfold cmE at this; omega
                have h3 := HSt.out h2
                have h4 := HEE.out
                unfold cmE at h4
                simp only [← h4] at h3
                have h5 : s[n] = 10 := by simpa using h3
                exact .inr ⟨h, by rw [h5]; rfl⟩
              · exact .inl (by omega)
            rcases hcase with h1 | ⟨h1, h2⟩
            · have i0 : decide ((n : Int) < (s.size : Int)) = false := decide_eq_false (by omega)
              go_wp2_with fail
              go_roundw
              case rel => exact ⟨L, n, fd, out, rfl, rfl, rfl, HN, HO.out, by omega, by omega, by omega, hb⟩
              case measure => simp [intOf]; omega
            · have i0 : (n : Int) < (s.size : Int) := by omega
              have hn8 := byte_bd s[n]
              go_wp2_with fail
              go_roundw
              case rel => exact ⟨L, n, fd, out, rfl, rfl, rfl, HN, HO.out, by omega, by omega, by omega, hb⟩
              case measure => simp [intOf]; omega
      have b35 : ((s[m].toNat : Int) == 35) = false := u8F e35
      have hC0 := fun (W : World) (_ : Below w.heap.size w W) => specOne s m hlt hs W
      cases ho : lex1 KK (s.data.toList.drop m) with
      | none =>
        have HN := Lib.hid (show lexT s = ([], L) by rw [← HR.out]; exact L_no hlt e10 (by rintro (h | h); exact e32 h; exact e9 h) e35 ho _ _ _)
        rw [ho] at hC0
        have hC : ∀ W : World, Below w.heap.size w W → Calls Tryd.prog 55 #[.string s, .int .i64 (m : Int)] W fun e w' => ∃ k t, e = .returned (.tuple #[.agg #[.int .i64 k, .string t, .int .i64 0], .int .i64 (-1)]) ∧ Below W.heap.size W w' := fun W hW => (hC0 W hW).mono fun e w' ⟨⟨k, t, h1⟩, h2⟩ => ⟨k, t, h1, h2⟩
        clear HR hC0 ho e10 e32 e9 e35 hown
        go_wp2_with (go_at_call 55; refine (hC _ (by exact hb)).mono ?_; rintro e w1 ⟨k1, t1, rfl, hb1⟩)
        go_ret2
        exact ⟨.slice none 0 0, by rw [HN.out]; rfl, by rw [HN.out]; exact TOwn.nil _ _, (hb.trans (hb1.mono hsz)).alloc (by have := hb1.size; omega) _⟩
      | some p =>
        obtain ⟨k, t, n⟩ := p
        obtain ⟨-, hn1, hn2, -⟩ := lex1_good kkOk ho
        rw [List.length_drop, show s.data.toList.length = s.size from rfl] at hn2
        have HL := Lib.hid (L_tok hlt e10 (by rintro (h | h); exact e32 h; exact e9 h) e35 ho L fd out)
        rw [ho] at hC0
        obtain ⟨m2, hm2⟩ : ∃ x, x = m + n := ⟨_, rfl⟩
        rw [← hm2] at HL
        have hC : ∀ W : World, Below w.heap.size w W → Calls Tryd.prog 55 #[.string s, .int .i64 (m : Int)] W fun e w' => e = .returned (.tuple #[.agg #[.int .i64 k, .string (mkT t), .int .i64 0], .int .i64 (m2 : Int)]) ∧ Below W.heap.size W w' := fun W hW => (hC0 W hW).mono fun e w' ⟨h1, h2⟩ => ⟨by rw [h1, hm2]; rfl, h2⟩
        have hn0 : decide ((m2 : Int) < 0) = false := by simp
        have HY := Lib.hid (show tkC ⟨k, t, L⟩ = [.int .i64 k, .string (mkT t), .int .i64 (L : Int)] from rfl)
        have hBg : ∀ (W : World) (lz : Int), Below w.heap.size w W → Calls Tryd.prog 57 #[.agg #[.int .i64 k, .string (mkT t), .int .i64 lz]] W fun e w' => e = .returned (.bool (rBeg k (mkT t))) ∧ Below W.heap.size W w' := fun W lz hW => specBeg k (mkT t) lz W
        obtain ⟨T, hTT⟩ : ∃ T, T = mkT t := ⟨_, rfl⟩
        have HTT := Lib.hid hTT
        obtain ⟨bg, hbg⟩ : ∃ x, x = rBeg k (mkT t) := ⟨_, rfl⟩
        have HBG := Lib.hid hbg
        rw [← hbg, ← hTT] at hBg
        rw [← hTT] at hC HY
        have HRR := Lib.hid (HR.out)
        have hm2s : m2 ≤ s.size := by omega
        have hm2m : m + 1 ≤ m2 := by omega
        clear HR hC0 ho e10 e32 e9 e35 hTT hbg hn2 hm2
        cases fd with
        | false =>
          have HN := Lib.hid (show lexL KK (s.data.toList.drop m2) L false (out ++ [⟨k, t, L⟩]) = lexT s by rw [← HRR.out, HL.out, sep_no, List.append_nil])
          clear HL HRR hBg
          go_wp2_with (first
            | (go_at_call 55; refine (hC _ (by exact hb)).mono ?_; rintro e w1 ⟨rfl, hb1⟩; have hbb := hb.trans (hb1.mono hsz); have hzz := hbb.size; have ow := hown.kept hb1)
            | (at_builtin; refine wpList_append_t rfl _ _ rfl rfl (ow.kept (by repeat (first | exact Below.refl _ _ | refine Below.drew ?_ | refine Below.setCell ?_ (by (try simp); try omega) _ | refine Below.alloc ?_ (by (try simp); try omega) _))) rfl (by first | rfl | simp) ⟨k, t, L⟩ (HY.out.symm) (by omega) (by (try simp); omega) ?_; intro g' cap' w4 ho2 hbw hgr))
          go_roundw
          case rel => exact ⟨L, m2, false, out ++ [⟨k, t, L⟩], rfl, rfl, rfl, HN, by simpa using ho2, hm2s, by omega, by simp; omega, Below.trans (by repeat (first | exact hbb | refine Below.drew ?_ | refine Below.setCell ?_ (by (try simp); try omega) _ | refine Below.alloc ?_ (by (try simp); try omega) _)) hbw⟩
          case measure => simp [intOf]; omega
        | true =>
          by_cases hz0 : out.length = 0
          · obtain rfl : out = [] := List.eq_nil_of_length_eq_zero hz0
            have HN := Lib.hid (show lexL KK (s.data.toList.drop m2) L false ([] ++ [⟨k, t, L⟩]) = lexT s by rw [← HRR.out, HL.out, sep_nil, List.append_nil])
            clear HL HRR hBg hz0
            go_wp2_with (first
              | (go_at_call 55; refine (hC _ (by exact hb)).mono ?_; rintro e w1 ⟨rfl, hb1⟩; have hbb := hb.trans (hb1.mono hsz); have hzz := hbb.size; have ow := hown.kept hb1)
              | (at_builtin; refine wpList_append_t rfl _ _ rfl rfl (ow.kept (by repeat (first | exact Below.refl _ _ | refine Below.drew ?_ | refine Below.setCell ?_ (by (try simp); try omega) _ | refine Below.alloc ?_ (by (try simp); try omega) _))) rfl (by first | rfl | simp) ⟨k, t, L⟩ (HY.out.symm) (by omega) (by (try simp); omega) ?_; intro g' cap' w4 ho2 hbw hgr))
            go_roundw
            case rel => exact ⟨L, m2, false, [] ++ [⟨k, t, L⟩], rfl, rfl, rfl, HN, by simpa using ho2, hm2s, by omega, by simp; omega, Below.trans (by repeat (first | exact hbb | refine Below.drew ?_ | refine Below.setCell ?_ (by (try simp); try omega) _ | refine Below.alloc ?_ (by (try simp); try omega) _)) hbw⟩
            case measure => simp [intOf]; omega
          · obtain ⟨j, hj⟩ : ∃ j, j + 1 = out.length := ⟨out.length - 1, by omega⟩
            have hjl : j < out.length := by omega
            obtain ⟨g, rfl, hgb, c0, c1, c2⟩ := TOwn.at_ hown hjl
            have HS := Lib.hid (sep_last (fed := true) hjl hj (k := k) (t := t))
            have hEn : ∀ W : World, Below w.heap.size w W → Calls Tryd.prog 56 #[.agg #[.int .i64 out[j].k, .string (mkT out[j].t), .int .i64 (out[j].l : Int)]] W fun e w' => e = .returned (.bool (rEnd out[j].k (mkT out[j].t))) ∧ Below W.heap.size W w' := fun W hW => by
              exact specEnds _ _ _ W
            obtain ⟨en, hen⟩ : ∃ x, x = rEnd out[j].k (mkT out[j].t) := ⟨_, rfl⟩
            rw [← hen] at HS hEn
            rw [← HBG.out] at HS
            obtain ⟨lz, hlz⟩ : ∃ x, x = out[j].l := ⟨_, rfl⟩
            rw [← hlz] at HS hEn c2
            generalize out[j].k = k0 at hEn c0
            generalize mkT out[j].t = q0 at hEn c1
            obtain ⟨Z, hZ⟩ : ∃ Z, Z = out.length := ⟨_, rfl⟩
            have hown' := hown
            have HZ := Lib.hid hZ
            rw [← hZ] at hown' hol hj hjl
            have iZ : (Z : Int) - 1 = (j : Int) := by omega
            have iZ0 : decide ((0 : Int) < (Z : Int)) = true := decide_eq_true (by omega)
            have iZj : (j : Int) < (Z : Int) := by omega
            clear hz0 hen hlz hown
            rw [← hZ]
            clear hZ
            have ownZ : ∀ {W : World} {c : Nat} {o2 : List Tk} {A2 : Option Addr}, TOwn W w.heap.size (.slice A2 Z c) o2 → True := fun _ => trivial
            cases en with
            | false =>
              have HN := Lib.hid (show lexL KK (s.data.toList.drop m2) L false (out ++ [⟨k, t, L⟩]) = lexT s by rw [← HRR.out, HL.out, HS.out]; simp)
              clear HL HRR hBg HS
              go_wp2_with (first
                | (go_at_call 55; refine (hC _ (by exact hb)).mono ?_; rintro e w1 ⟨rfl, hb1⟩; have hbb := hb.trans (hb1.mono hsz); have hzz := hbb.size; have ow := hown'.kept hb1; have d0 := kc1 hb1 c0; have d1 := kc1 hb1 c1; have d2 := kc1 hb1 c2; have hz1 := hb1.size; have hgw : g < w1.heap.size := (by omega))
                | (go_at_call 56; refine (hEn _ (by repeat (first | exact hbb | refine Below.drew ?_ | refine Below.setCell ?_ (by (try simp); try omega) _ | refine Below.alloc ?_ (by (try simp); try omega) _))).mono ?_; rintro e w2 ⟨rfl, hb2⟩; have d0 := kc1 hb2 (v := .int .i64 k0) (p := ⟨g, j * 3, none⟩) (by go_simp); have d1 := kc1 hb2 (v := .string q0) (p := ⟨g, j * 3 + 1, none⟩) (by go_simp); have d2 := kc1 hb2 (v := .int .i64 (lz : Int)) (p := ⟨g, j * 3 + 2, none⟩) (by go_simp); have hgw : g < w2.heap.size := (by have := hb2.size; (try simp at this); omega); have hRt := Blk.kept (g := w1.heap.size) (t := 61) (cs := #[.int .i64 k, .string T, .int .i64 (L : Int)]) (by first | exact Blk.new _ _ _ | exact Blk.set_ (Blk.new _ _ _) 2 _) hb2; have t0 := hRt.cell 0; have t1 := hRt.cell 1; have t2 := hRt.cell 2; have hRl := hRt.lt; simp at t0 t1 t2; have ow := ow.kept (by have := hb2; refine Below.trans (by repeat (first | exact Below.refl _ _ | refine Below.drew ?_ | refine Below.setCell ?_ (by (try simp); try omega) _ | refine Below.alloc ?_ (by (try simp); try omega) _) : Below w1.heap.size w1 _) (hb2.mono (by simp))); have hbb := growT (w := w) (by repeat (first | exact hbb | refine Below.drew ?_ | refine Below.setCell ?_ (by (try simp); try omega) _ | refine Below.alloc ?_ (by (try simp); try omega) _)) hb2; have hzz := hbb.size)
                | (at_builtin; refine wpList_append_t rfl _ _ rfl rfl (ow) rfl (by first | rfl | simp) ⟨k, t, L⟩ (HY.out.symm) (by have := HZ.out; omega) (by (try simp); omega) ?_; intro g' cap' w4 ho2 hbw hgr))
              go_roundw
              case rel => exact ⟨L, m2, false, out ++ [⟨k, t, L⟩], rfl, rfl, rfl, HN, by have := HZ.out; subst this; simpa using ho2, hm2s, by omega, by simp; have := HZ.out; omega, hbb.trans hbw⟩
              case measure => simp [intOf]; omega
            | true =>
              cases bg with
              | false =>
                have HN := Lib.hid (show lexL KK (s.data.toList.drop m2) L false (out ++ [⟨k, t, L⟩]) = lexT s by rw [← HRR.out, HL.out, HS.out]; simp)
                clear HL HRR HS
                go_wp2_with (first
                  | (go_at_call 55; refine (hC _ (by exact hb)).mono ?_; rintro e w1 ⟨rfl, hb1⟩; have hbb := hb.trans (hb1.mono hsz); have hzz := hbb.size; have ow := hown'.kept hb1; have d0 := kc1 hb1 c0; have d1 := kc1 hb1 c1; have d2 := kc1 hb1 c2; have hz1 := hb1.size; have hgw : g < w1.heap.size := (by omega))
                  | (go_at_call 56; refine (hEn _ (by repeat (first | exact hbb | refine Below.drew ?_ | refine Below.setCell ?_ (by (try simp); try omega) _ | refine Below.alloc ?_ (by (try simp); try omega) _))).mono ?_; rintro e w2 ⟨rfl, hb2⟩; have d0 := kc1 hb2 (v := .int .i64 k0) (p := ⟨g, j * 3, none⟩) (by go_simp); have d1 := kc1 hb2 (v := .string q0) (p := ⟨g, j * 3 + 1, none⟩) (by go_simp); have d2 := kc1 hb2 (v := .int .i64 (lz : Int)) (p := ⟨g, j * 3 + 2, none⟩) (by go_simp); have hgw : g < w2.heap.size := (by have := hb2.size; (try simp at this); omega); have hRt := Blk.kept (g := w1.heap.size) (t := 61) (cs := #[.int .i64 k, .string T, .int .i64 (L : Int)]) (by first | exact Blk.new _ _ _ | exact Blk.set_ (Blk.new _ _ _) 2 _) hb2; have t0 := hRt.cell 0; have t1 := hRt.cell 1; have t2 := hRt.cell 2; have hRl := hRt.lt; simp at t0 t1 t2; have ow := ow.kept (by have := hb2; refine Below.trans (by repeat (first | exact Below.refl _ _ | refine Below.drew ?_ | refine Below.setCell ?_ (by (try simp); try omega) _ | refine Below.alloc ?_ (by (try simp); try omega) _) : Below w1.heap.size w1 _) (hb2.mono (by simp))); have hbb := growT (w := w) (by repeat (first | exact hbb | refine Below.drew ?_ | refine Below.setCell ?_ (by (try simp); try omega) _ | refine Below.alloc ?_ (by (try simp); try omega) _)) hb2; have hzz := hbb.size)
                  | (go_at_call 57; refine (hBg _ _ hbb).mono ?_; rintro e w3 ⟨rfl, hb3⟩; have d0 := kc1 hb3 (v := .int .i64 k0) (p := ⟨g, j * 3, none⟩) (by go_simp); have d1 := kc1 hb3 (v := .string q0) (p := ⟨g, j * 3 + 1, none⟩) (by go_simp); have d2 := kc1 hb3 (v := .int .i64 (lz : Int)) (p := ⟨g, j * 3 + 2, none⟩) (by go_simp); have hgw : g < w3.heap.size := (by have := hb3.size; (try simp at this); omega); have hRt := hRt.kept hb3; have t0 := hRt.cell 0; have t1 := hRt.cell 1; have t2 := hRt.cell 2; have hRl := hRt.lt; simp at t0 t1 t2; have ow := ow.kept hb3; have hbb := hbb.trans (hb3.mono hzz); have hzz := hbb.size)
                  | (at_builtin; refine wpList_append_t rfl _ _ rfl rfl (ow) rfl (by first | rfl | simp) ⟨k, t, L⟩ (HY.out.symm) (by have := HZ.out; omega) (by (try simp); omega) ?_; intro g' cap' w4 ho2 hbw hgr))
                go_roundw
                case rel => exact ⟨L, m2, false, out ++ [⟨k, t, L⟩], rfl, rfl, rfl, HN, by have := HZ.out; subst this; simpa using ho2, hm2s, by omega, by simp; have := HZ.out; omega, hbb.trans hbw⟩
                case measure => simp [intOf]; omega
              | true =>
                have HN := Lib.hid (show lexL KK (s.data.toList.drop m2) L false (out ++ [⟨7, [59], lz⟩] ++ [⟨k, t, L⟩]) = lexT s by rw [← HRR.out, HL.out, HS.out]; simp)
                clear HL HRR HS
                go_wp2_with (first
                  | (go_at_call 55; refine (hC _ (by exact hb)).mono ?_; rintro e w1 ⟨rfl, hb1⟩; have hbb := hb.trans (hb1.mono hsz); have hzz := hbb.size; have ow := hown'.kept hb1; have d0 := kc1 hb1 c0; have d1 := kc1 hb1 c1; have d2 := kc1 hb1 c2; have hz1 := hb1.size; have hgw : g < w1.heap.size := (by omega))
                  | (go_at_call 56; refine (hEn _ (by repeat (first | exact hbb | refine Below.drew ?_ | refine Below.setCell ?_ (by (try simp); try omega) _ | refine Below.alloc ?_ (by (try simp); try omega) _))).mono ?_; rintro e w2 ⟨rfl, hb2⟩; have d0 := kc1 hb2 (v := .int .i64 k0) (p := ⟨g, j * 3, none⟩) (by go_simp); have d1 := kc1 hb2 (v := .string q0) (p := ⟨g, j * 3 + 1, none⟩) (by go_simp); have d2 := kc1 hb2 (v := .int .i64 (lz : Int)) (p := ⟨g, j * 3 + 2, none⟩) (by go_simp); have hgw : g < w2.heap.size := (by have := hb2.size; (try simp at this); omega); have hRt := Blk.kept (g := w1.heap.size) (t := 61) (cs := #[.int .i64 k, .string T, .int .i64 (L : Int)]) (by first | exact Blk.new _ _ _ | exact Blk.set_ (Blk.new _ _ _) 2 _) hb2; have t0 := hRt.cell 0; have t1 := hRt.cell 1; have t2 := hRt.cell 2; have hRl := hRt.lt; simp at t0 t1 t2; have ow := ow.kept (by have := hb2; refine Below.trans (by repeat (first | exact Below.refl _ _ | refine Below.drew ?_ | refine Below.setCell ?_ (by (try simp); try omega) _ | refine Below.alloc ?_ (by (try simp); try omega) _) : Below w1.heap.size w1 _) (hb2.mono (by simp))); have hbb := growT (w := w) (by repeat (first | exact hbb | refine Below.drew ?_ | refine Below.setCell ?_ (by (try simp); try omega) _ | refine Below.alloc ?_ (by (try simp); try omega) _)) hb2; have hzz := hbb.size)
                  | (go_at_call 57; refine (hBg _ _ hbb).mono ?_; rintro e w3 ⟨rfl, hb3⟩; have d0 := kc1 hb3 (v := .int .i64 k0) (p := ⟨g, j * 3, none⟩) (by go_simp); have d1 := kc1 hb3 (v := .string q0) (p := ⟨g, j * 3 + 1, none⟩) (by go_simp); have d2 := kc1 hb3 (v := .int .i64 (lz : Int)) (p := ⟨g, j * 3 + 2, none⟩) (by go_simp); have hgw : g < w3.heap.size := (by have := hb3.size; (try simp at this); omega); have hRt := hRt.kept hb3; have t0 := hRt.cell 0; have t1 := hRt.cell 1; have t2 := hRt.cell 2; have hRl := hRt.lt; simp at t0 t1 t2; have ow := ow.kept hb3; have hbb := hbb.trans (hb3.mono hzz); have hzz := hbb.size)
                  | (at_builtin; have tok := ho1; refine wpList_append_t rfl _ _ rfl rfl (ho1) rfl (by first | rfl | simp) ⟨k, t, L⟩ (HY.out.symm) (by have := HZ.out; (try simp); omega) (by (try simp); omega) ?_; intro g' cap' w4 ho2 hbw hgr)
                  | (at_builtin; refine wpList_append_t rfl _ _ rfl rfl (ow) rfl (by first | rfl | simp) ⟨7, [59], lz⟩ (by rfl) (by have := HZ.out; omega) (by (try simp); omega) ?_; intro g' cap' w4 ho1 hbw1 hgr1; have hRt := hRt.grown hgr1 (show some w1.heap.size ≠ (Value.slice (some ⟨g, 0, none⟩) Z cap).ownBlock by simp [Value.ownBlock]; omega); have t0 := hRt.cell 0; have t1 := hRt.cell 1; have t2 := hRt.cell 2; have hRl := hRt.lt; simp at t0 t1 t2; have hbb := hbb.trans hbw1; have hzz := hbb.size))
                go_roundw
                case rel => exact ⟨L, m2, false, out ++ [⟨7, [59], lz⟩] ++ [⟨k, t, L⟩], rfl, rfl, rfl, HN, by have := HZ.out; subst this; simpa using ho2, hm2s, by omega, by simp; have := HZ.out; omega, hbb.trans hbw⟩
                case measure => simp [intOf]; omega
  · have HN := Lib.hid (show lexT s = ([], 1) from if_pos (by omega))
    have b0 : decide ((6000 : Int) < (s.size : Int)) = true := decide_eq_true (by omega)
    go_enter Tryd.func25, Tryd.ntmps25
    go_wp2_with fail
    go_ret2
    exact ⟨.slice none 0 0, by rw [HN.out]; rfl, by rw [HN.out]; exact TOwn.nil _ _, Below.refl _ _⟩
end Go.Proofs.YtanmkeoieckebaaDoor
