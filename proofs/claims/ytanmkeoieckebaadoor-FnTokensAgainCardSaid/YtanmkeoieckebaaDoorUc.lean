/- Proved here: what UnquoteCset and its reference give on a text: the set of the unquoted text, or none. Condition: at most 1048576 bytes. -/
import Derived.Test.YtanmkeoieckebaaDoorUs
import Derived.Test.YtanmkeoieckebaaDoorNc
namespace Go.Proofs.YtanmkeoieckebaaDoor
open Go.RowKit

/-- The set of an unquoted text. -/
def ucC (o : Option (List UInt8)) : (Int × Int) × Bool := match o with
  | none => ((0, 0), false)
  | some r => newC r
set_option maxHeartbeats 1000000 in
theorem implUnquoteCset (s : ByteArray) (hs : s.size ≤ 1048576) (w : World) : Calls Tryd.prog 109 #[.string s] w fun e w' => e = .returned (.tuple #[cs (ucC (unqL 39 s.data.toList)).1.1 (ucC (unqL 39 s.data.toList)).1.2, .bool (ucC (unqL 39 s.data.toList)).2]) ∧ Below w.heap.size w w' := by
  have hU := fun W => implUnq 39 s hs W
  have hL := fun r (h : unqL 39 s.data.toList = some r) => unqL_len h
  have hz : s.data.toList.length = s.size := rfl
  cases ho : unqL 39 s.data.toList with
  | none =>
    rw [ho] at hU
    unfold uqE at hU
    clear ho hL hz
    go_enter Tryd.func109, Tryd.ntmps109
    have hR0 : Blk (w.alloc (csB 100 0 0)) w.heap.size 100 #[.int .i64 0, .int .i64 0] := Blk.new _ _ _
    go_wp2_with (go_at_call 136; refine (hU _).mono ?_; rintro e w1 ⟨rfl, hb⟩; have hR1 := hR0.kept hb; have r0 := hR1.cell 0; have r1 := hR1.cell 1; have s0 := hR1.frozen 0; have s1 := hR1.frozen 1; have hRl := hR1.lt; simp at r0 r1)
    refine bodyPost_ret (v := .tuple #[cs 0 0, .bool false]) (by simp [results, Tryd.results109, go_sem, r0, r1]) rfl ⟨rfl, ?_⟩
    have hbb : Below w.heap.size w w1 := Below.trans (by repeat (first | exact Below.refl _ _ | refine Below.drew ?_ | refine Below.setCell ?_ (by (try simp); try omega) _ | refine Below.alloc ?_ (by (try simp); try omega) _)) (hb.mono (by simp))
    repeat (first | exact hbb | refine Below.drew ?_ | refine Below.setCell ?_ (by (try simp); try omega) _ | refine Below.alloc ?_ (by (try simp); try omega) _)
  | some r =>
    have hr := hL r ho
    rw [ho] at hU
    unfold uqE at hU
    have hN := fun W => implNew ⟨r.toArray⟩ (by show r.length ≤ _; omega) W
    obtain ⟨T, hT⟩ : ∃ T : ByteArray, T = ⟨r.toArray⟩ := ⟨_, rfl⟩
    have eT : (⟨r.toArray⟩ : ByteArray).data.toList = r := rfl
    rw [eT] at hN
    rw [← hT] at hN
    replace hU : ∀ W : World, Calls Tryd.prog 136 #[.string s, .int .u8 39] W fun e w' => e = .returned (.tuple #[.string T, .bool true]) ∧ Below W.heap.size W w' := by rw [hT]; exact hU
    clear ho hL hz eT hT hr
    show Calls _ _ _ _ fun e w' => e = .returned (.tuple #[cs (newC r).1.1 (newC r).1.2, .bool (newC r).2]) ∧ _
    generalize (newC r).1.1 = a at hN ⊢
    generalize (newC r).1.2 = b at hN ⊢
    generalize (newC r).2 = ok at hN ⊢
    go_enter Tryd.func109, Tryd.ntmps109
    have hR0 : Blk (w.alloc (csB 100 0 0)) w.heap.size 100 #[.int .i64 0, .int .i64 0] := Blk.new _ _ _
    go_wp2_with (first
      | (go_at_call 136; refine (hU _).mono ?_; rintro e w1 ⟨rfl, hb⟩; have hR1 := hR0.kept hb)
      | (go_at_call 70; refine (hN _).mono ?_; rintro e w2 ⟨rfl, hb2⟩; have hR2 := hR1.kept hb2; have r0 := hR2.cell 0; have r1 := hR2.cell 1; have s0 := hR2.frozen 0; have s1 := hR2.frozen 1; have hRl := hR2.lt; simp at r0 r1))
    refine bodyPost_ret (v := .tuple #[cs a b, .bool ok]) (by simp [results, Tryd.results109, go_sem, r0, r1]) rfl ⟨rfl, ?_⟩
    have hbb : Below w.heap.size w w2 := Below.trans (b := w1) (Below.trans (by repeat (first | exact Below.refl _ _ | refine Below.drew ?_ | refine Below.setCell ?_ (by (try simp); try omega) _ | refine Below.alloc ?_ (by (try simp); try omega) _)) (hb.mono (by simp))) (hb2.mono (by have := hb.size; simp at this; omega))
    repeat (first | exact hbb | refine Below.drew ?_ | refine Below.setCell ?_ (by (try simp); try omega) _ | refine Below.alloc ?_ (by (try simp); try omega) _)
set_option maxHeartbeats 1000000 in
theorem specUnquoteCset (s : ByteArray) (hs : s.size ≤ 1048576) (w : World) : Calls Tryd.prog 101 #[.string s] w fun e w' => e = .returned (.tuple #[cs (ucC (unqL 39 s.data.toList)).1.1 (ucC (unqL 39 s.data.toList)).1.2, .bool (ucC (unqL 39 s.data.toList)).2]) ∧ Below w.heap.size w w' := by
  have hU := fun W => specUnq 39 (.inr rfl) s hs W
  have hL := fun r (h : unqL 39 s.data.toList = some r) => unqL_len h
  have hz : s.data.toList.length = s.size := rfl
  cases ho : unqL 39 s.data.toList with
  | none =>
    rw [ho] at hU
    unfold uqE at hU
    clear ho hL hz
    go_enter Tryd.func101, Tryd.ntmps101
    have hR0 : Blk (w.alloc (csB 100 0 0)) w.heap.size 100 #[.int .i64 0, .int .i64 0] := Blk.new _ _ _
    go_wp2_with (go_at_call 133; refine (hU _).mono ?_; rintro e w1 ⟨rfl, hb⟩; have hR1 := hR0.kept hb; have r0 := hR1.cell 0; have r1 := hR1.cell 1; have s0 := hR1.frozen 0; have s1 := hR1.frozen 1; have hRl := hR1.lt; simp at r0 r1)
    refine bodyPost_ret (v := .tuple #[cs 0 0, .bool false]) (by simp [results, Tryd.results101, go_sem, r0, r1]) rfl ⟨rfl, ?_⟩
    have hbb : Below w.heap.size w w1 := Below.trans (by repeat (first | exact Below.refl _ _ | refine Below.drew ?_ | refine Below.setCell ?_ (by (try simp); try omega) _ | refine Below.alloc ?_ (by (try simp); try omega) _)) (hb.mono (by simp))
    repeat (first | exact hbb | refine Below.drew ?_ | refine Below.setCell ?_ (by (try simp); try omega) _ | refine Below.alloc ?_ (by (try simp); try omega) _)
  | some r =>
    have hr := hL r ho
    rw [ho] at hU
    unfold uqE at hU
    have hN := fun W => specNew ⟨r.toArray⟩ (by show r.length ≤ _; omega) W
    obtain ⟨T, hT⟩ : ∃ T : ByteArray, T = ⟨r.toArray⟩ := ⟨_, rfl⟩
    have eT : (⟨r.toArray⟩ : ByteArray).data.toList = r := rfl
    rw [eT] at hN
    rw [← hT] at hN
    replace hU : ∀ W : World, Calls Tryd.prog 133 #[.string s, .int .u8 39] W fun e w' => e = .returned (.tuple #[.string T, .bool true]) ∧ Below W.heap.size W w' := by rw [hT]; exact hU
    clear ho hL hz eT hT hr
    show Calls _ _ _ _ fun e w' => e = .returned (.tuple #[cs (newC r).1.1 (newC r).1.2, .bool (newC r).2]) ∧ _
    generalize (newC r).1.1 = a at hN ⊢
    generalize (newC r).1.2 = b at hN ⊢
    generalize (newC r).2 = ok at hN ⊢
    go_enter Tryd.func101, Tryd.ntmps101
    have hR0 : Blk (w.alloc (csB 100 0 0)) w.heap.size 100 #[.int .i64 0, .int .i64 0] := Blk.new _ _ _
    go_wp2_with (first
      | (go_at_call 133; refine (hU _).mono ?_; rintro e w1 ⟨rfl, hb⟩; have hR1 := hR0.kept hb)
      | (go_at_call 119; refine (hN _).mono ?_; rintro e w2 ⟨rfl, hb2⟩; have hR2 := hR1.kept hb2; have r0 := hR2.cell 0; have r1 := hR2.cell 1; have s0 := hR2.frozen 0; have s1 := hR2.frozen 1; have hRl := hR2.lt; simp at r0 r1))
    refine bodyPost_ret (v := .tuple #[cs a b, .bool ok]) (by simp [results, Tryd.results101, go_sem, r0, r1]) rfl ⟨rfl, ?_⟩
    have hbb : Below w.heap.size w w2 := Below.trans (b := w1) (Below.trans (by repeat (first | exact Below.refl _ _ | refine Below.drew ?_ | refine Below.setCell ?_ (by (try simp); try omega) _ | refine Below.alloc ?_ (by (try simp); try omega) _)) (hb.mono (by simp))) (hb2.mono (by have := hb.size; simp at this; omega))
    repeat (first | exact hbb | refine Below.drew ?_ | refine Below.setCell ?_ (by (try simp); try omega) _ | refine Below.alloc ?_ (by (try simp); try omega) _)
end Go.Proofs.YtanmkeoieckebaaDoor
