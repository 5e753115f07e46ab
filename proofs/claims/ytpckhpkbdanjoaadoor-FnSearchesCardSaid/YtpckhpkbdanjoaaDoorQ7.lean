/-
  Texts of this proof, one behind the other (part 7).
-/
import Derived.Test.YtpckhpkbdanjoaaDoorQ6
import Derived.Deep.Cut
import Derived.Deep.CutRange
/-
  Walks: the reference's draws of floors and cells (printed by gen_drwh.py).-/
namespace Go.Proofs.YtpckhpkbdanjoaaDoor
set_option linter.unusedVariables false
set_option linter.unusedSimpArgs false
open Go.RowKit

theorem sl_set {w : World} {lo hi sz n : Nat} {v : Value} {c : Nat → Nat → Value} (h : Sl w lo hi sz v n c) {a : Addr} (ha : a.block < lo) (u : Value) : Sl (w.setCell a u) lo hi sz v n c :=
  h.keep fun q h1 _ => Deep.blk_setCell_other _ _ _ _ (by omega)
set_option maxRecDepth 100000 in
set_option maxHeartbeats 3200000 in
theorem DrawIsFloor_any (v : Value) (w : World) (h : Code w v) :
    Calls Tryd.prog 86 #[v] w fun e w' => ∃ (u : Value) (n : Nat) (F : Nat → ByteArray), e = .returned u ∧ Sl w' w.heap.size w'.heap.size 1 u n (sC F) ∧ ffits F n ∧ Below w.heap.size w w' := by
  obtain ⟨A, n, cap, rfl⟩ := h.form
  have C0 : Cu (w.alloc (.cells #[.slice A n cap, .int .i64 0, .int .u64 0] 90)) (w.heap.size) 0 := by
    have := Cu.start h 90
    simpa using this
  have O0 : Only (w.heap.size) (w.heap.size + 1) w (w.alloc (.cells #[.slice A n cap, .int .i64 0, .int .u64 0] 90)) := (Only.refl _ _ w).alloc _
  go_enter Tryd.func86, Tryd.ntmps86
  go_wp2_with fail
  refine (floor_any _ _ _ C0 (by omega)).mono ?_
  rintro e w1 ⟨u, rfl, n', hs1, hn', C1, hO1⟩
  obtain ⟨F, hF1, hFs⟩ := hs1.sl
  have hff : ffits F n' := ⟨by omega, fun i hi => by have := hFs i hi; unfold maxLen; omega⟩
  clear hs1
  have hz1 := hO1.size
  (try simp at hz1)
  have O1 := O0.trans hO1
  clear O0 C0
  have HF1 : Hid (Sl w1 (w.heap.size + 1) w1.heap.size 1 u n' (sC F)) := hF1.mono (by simp; try omega) (Nat.le_refl _)
  clear hF1
  obtain ⟨Au, cu, rfl, _, _⟩ := id HF1.out.open_
  have hb : Below w.heap.size w w1 := O1.below (by omega) (Nat.le_refl _)
  clear O1 C1
  go_wp2_with fail
  go_ret
  exact ⟨_, _, F, rfl, HF1.out.mono (by omega) (Nat.le_refl _), hff, hb⟩

set_option maxRecDepth 100000 in
set_option maxHeartbeats 3200000 in
theorem DrawCountOpen_any (v : Value) (w : World) (h : Code w v) :
    Calls Tryd.prog 38 #[v] w fun e w' => ∃ (u : Value) (n : Nat) (F : Nat → ByteArray), e = .returned u ∧ Sl w' w.heap.size w'.heap.size 1 u n (sC F) ∧ ffits F n ∧ Below w.heap.size w w' := by
  go_enter Tryd.func38, Tryd.ntmps38
  go_wp2_with fail
  refine (DrawIsFloor_any v _ h).mono ?_
  rintro e w1 ⟨u, n', F, rfl, hs, hff, hb⟩
  obtain ⟨Au, cu, rfl, _, _⟩ := id hs.open_
  go_wp2_with fail
  go_ret
  exact ⟨_, _, F, rfl, hs, hff, hb⟩

set_option maxRecDepth 100000 in
set_option maxHeartbeats 3200000 in
theorem DrawIsOpenCell_any (v : Value) (w : World) (h : Code w v) :
    Calls Tryd.prog 41 #[v] w fun e w' => ∃ (u : Value) (n : Nat) (F : Nat → ByteArray) (x y : Int), e = .returned (.tuple #[u, .agg #[.int .i64 x, .int .i64 y]]) ∧ Sl w' w.heap.size w'.heap.size 1 u n (sC F) ∧ ffits F n ∧ Below w.heap.size w w' := by
  obtain ⟨A, n, cap, rfl⟩ := h.form
  have C0 : Cu ((w.alloc (.cells #[.int .i64 0, .int .i64 0] 38)).alloc (.cells #[.slice A n cap, .int .i64 0, .int .u64 0] 90)) (w.heap.size + 1) 0 := by
    have := Cu.start (h.below ((Below.refl _ _).alloc (Nat.le_refl _) (.cells #[.int .i64 0, .int .i64 0] 38)) (Nat.le_refl _)) 90
    simpa using this
  have R0 : BxI ((w.alloc (.cells #[.int .i64 0, .int .i64 0] 38)).alloc (.cells #[.slice A n cap, .int .i64 0, .int .u64 0] 90)) w.heap.size 0 0 := (BxI.new w 0 0 _).alloc _
  have O0 : Only (w.heap.size + 1) (w.heap.size + 1 + 1) w ((w.alloc (.cells #[.int .i64 0, .int .i64 0] 38)).alloc (.cells #[.slice A n cap, .int .i64 0, .int .u64 0] 90)) := ((Only.refl _ _ w).alloc _).alloc _
  go_enter Tryd.func41, Tryd.ntmps41
  go_wp2_with fail
  refine (floor_any _ _ _ C0 (by omega)).mono ?_
  rintro e w1 ⟨u, rfl, n', hs1, hn', C1, hO1⟩
  obtain ⟨F, hF1, hFs⟩ := hs1.sl
  have hff : ffits F n' := ⟨by omega, fun i hi => by have := hFs i hi; unfold maxLen; omega⟩
  clear hs1
  have hz1 := hO1.size
  (try simp at hz1)
  have R1 := R0.only hO1 (by omega)
  have O1 := O0.trans hO1
  clear R0 O0 C0
  have HF1 : Hid (Sl w1 (w.heap.size + 1 + 1) w1.heap.size 1 u n' (sC F)) := hF1.mono (by simp; try omega) (Nat.le_refl _)
  clear hF1
  obtain ⟨Au, cu, rfl, _, _⟩ := id HF1.out.open_
  go_wp2_with fail
  refine (one_any _ _ _ _ C1 (by omega)).mono ?_
  rintro e w2 ⟨b2, rfl, C2, hO2⟩
  have HF2 : Hid (Sl w2 (w.heap.size + 1 + 1) w2.heap.size 1 (.slice Au n' cu) n' (sC F)) := (HF1.out.onlyF hO2 (by omega) (Nat.le_refl _)).mono (Nat.le_refl _) hO2.size
  clear HF1
  have hz2 := hO2.size
  (try simp at hz2)
  have R2 := R1.only hO2 (by omega)
  have O2 := O1.trans hO2
  clear R1 O1 C1
  cases b2 with
  | true =>
    go_wp2_with fail
    refine (pick_any _ _ _ _ C2 (by omega)).mono ?_
    rintro e w3 ⟨v3, rfl, hv3, C3, hO3⟩
    have HF3 : Hid (Sl w3 (w.heap.size + 1 + 1) w3.heap.size 1 (.slice Au n' cu) n' (sC F)) := (HF2.out.onlyF hO3 (by omega) (Nat.le_refl _)).mono (Nat.le_refl _) hO3.size
    clear HF2
    have hz3 := hO3.size
    (try simp at hz3)
    have R3 := R2.only hO3 (by omega)
    have O3 := O2.trans hO3
    clear R2 O2 C2
    go_wp2_with fail
    refine (pick_any _ _ _ _ C3 (by omega)).mono ?_
    rintro e w4 ⟨v4, rfl, hv4, C4, hO4⟩
    have HF4 : Hid (Sl w4 (w.heap.size + 1 + 1) w4.heap.size 1 (.slice Au n' cu) n' (sC F)) := (HF3.out.onlyF hO4 (by omega) (Nat.le_refl _)).mono (Nat.le_refl _) hO4.size
    clear HF3
    have hz4 := hO4.size
    (try simp at hz4)
    have R4 := R3.only hO4 (by omega)
    have O4 := O3.trans hO4
    clear R3 O3 C3
    have z1 : IntKind.i64.wrap (v3 - 1) = v3 - 1 := IntWalk.i64_in _ (by omega)
    have z2 : IntKind.i64.wrap (v4 - 1) = v4 - 1 := IntWalk.i64_in _ (by omega)
    obtain ⟨r0, r1, rf, rl⟩ := R4
    have hb : Below w.heap.size w w4 := O4.below (by omega) (Nat.le_refl _)
    clear O4 C4
    go_wp2_with fail
    exact bodyPost_ret (v := .tuple #[.slice Au n' cu, .agg #[.int .i64 (v3 - 1), .int .i64 (v4 - 1)]]) (by simp [results, Tryd.results41, go_sem, *]) rfl ⟨_, _, F, _, _, rfl, ((sl_set (sl_set HF4.out (by simp; try omega) _) (by simp; try omega) _)).mono (by omega) (by simp [World.setCell]; try omega), hff, (by repeat (first | (with_reducible exact Below.refl _ _) | (with_reducible refine below_ov ?_ ?_) | (with_reducible refine Below.setCell ?_ ?_ _) | (with_reducible refine Below.alloc ?_ ?_ _) | (with_reducible refine Below.drew ?_) | (with_reducible refine below_drewN ?_ _) | (refine Below.trans ?_ (Below.mono ‹Below _ _ _› (by first | omega | (simp; done) | (simp; omega)))) | exact Below.refl _ _ | omega | (focus (simp; done)) | (focus (simp; omega))))⟩
  | false =>
    go_wp2_with fail
    refine (cellOf_any F n' (w.heap.size + 1 + 1) _ _ _ _ _ C2 (by omega) HF2.out (by omega) (Nat.le_refl _) hff).mono ?_
    rintro e w3 ⟨x, y, rfl, C3, hO3⟩
    have HF3 : Hid (Sl w3 (w.heap.size + 1 + 1) w3.heap.size 1 (.slice Au n' cu) n' (sC F)) := (HF2.out.onlyF hO3 (by omega) (Nat.le_refl _)).mono (Nat.le_refl _) hO3.size
    clear HF2
    have hz3 := hO3.size
    (try simp at hz3)
    have R3 := R2.only hO3 (by omega)
    have O3 := O2.trans hO3
    clear R2 O2 C2
    obtain ⟨r0, r1, rf, rl⟩ := R3
    have hb : Below w.heap.size w w3 := O3.below (by omega) (Nat.le_refl _)
    clear O3 C3
    go_wp2_with fail
    exact bodyPost_ret (v := .tuple #[.slice Au n' cu, .agg #[.int .i64 x, .int .i64 y]]) (by simp [results, Tryd.results41, go_sem, *]) rfl ⟨_, _, F, _, _, rfl, ((sl_set (sl_set HF3.out (by simp; try omega) _) (by simp; try omega) _)).mono (by omega) (by simp [World.setCell]; try omega), hff, (by repeat (first | (with_reducible exact Below.refl _ _) | (with_reducible refine below_ov ?_ ?_) | (with_reducible refine Below.setCell ?_ ?_ _) | (with_reducible refine Below.alloc ?_ ?_ _) | (with_reducible refine Below.drew ?_) | (with_reducible refine below_drewN ?_ _) | (refine Below.trans ?_ (Below.mono ‹Below _ _ _› (by first | omega | (simp; done) | (simp; omega)))) | exact Below.refl _ _ | omega | (focus (simp; done)) | (focus (simp; omega))))⟩

set_option maxRecDepth 100000 in
set_option maxHeartbeats 3200000 in
theorem DrawWayBack_any (v : Value) (w : World) (h : Code w v) :
    Calls Tryd.prog 28 #[v] w fun e w' => ∃ (u : Value) (n : Nat) (F : Nat → ByteArray) (x y p q : Int), e = .returned (.tuple #[u, .agg #[.int .i64 x, .int .i64 y], .agg #[.int .i64 p, .int .i64 q]]) ∧ Sl w' w.heap.size w'.heap.size 1 u n (sC F) ∧ ffits F n ∧ Below w.heap.size w w' := by
  obtain ⟨A, n, cap, rfl⟩ := h.form
  have C0 : Cu (((w.alloc (.cells #[.int .i64 0, .int .i64 0] 38)).alloc (.cells #[.int .i64 0, .int .i64 0] 38)).alloc (.cells #[.slice A n cap, .int .i64 0, .int .u64 0] 90)) (w.heap.size + 1 + 1) 0 := by
    have := Cu.start ((h.below ((Below.refl _ _).alloc (Nat.le_refl _) (.cells #[.int .i64 0, .int .i64 0] 38)) (Nat.le_refl _)).below ((Below.refl _ _).alloc (Nat.le_refl _) (.cells #[.int .i64 0, .int .i64 0] 38)) (Nat.le_refl _)) 90
    simpa using this
  have R0 : BxI (((w.alloc (.cells #[.int .i64 0, .int .i64 0] 38)).alloc (.cells #[.int .i64 0, .int .i64 0] 38)).alloc (.cells #[.slice A n cap, .int .i64 0, .int .u64 0] 90)) w.heap.size 0 0 := ((BxI.new w 0 0 _).alloc _).alloc _
  have Q0 : BxI (((w.alloc (.cells #[.int .i64 0, .int .i64 0] 38)).alloc (.cells #[.int .i64 0, .int .i64 0] 38)).alloc (.cells #[.slice A n cap, .int .i64 0, .int .u64 0] 90)) (w.heap.size + 1) 0 0 := by
    have := (BxI.new (w.alloc (.cells #[.int .i64 0, .int .i64 0] 38)) 0 0 38).alloc (.cells #[.slice A n cap, .int .i64 0, .int .u64 0] 90)
    simpa using this
  have O0 : Only (w.heap.size + 1 + 1) (w.heap.size + 1 + 1 + 1) w (((w.alloc (.cells #[.int .i64 0, .int .i64 0] 38)).alloc (.cells #[.int .i64 0, .int .i64 0] 38)).alloc (.cells #[.slice A n cap, .int .i64 0, .int .u64 0] 90)) := (((Only.refl _ _ w).alloc _).alloc _).alloc _
  go_enter Tryd.func28, Tryd.ntmps28
  go_wp2_with fail
  refine (floor_any _ _ _ C0 (by omega)).mono ?_
  rintro e w1 ⟨u, rfl, n', hs1, hn', C1, hO1⟩
  obtain ⟨F, hF1, hFs⟩ := hs1.sl
  have hff : ffits F n' := ⟨by omega, fun i hi => by have := hFs i hi; unfold maxLen; omega⟩
  clear hs1
  have hz1 := hO1.size
  (try simp at hz1)
  have R1 := R0.only hO1 (by omega)
  have Q1 := Q0.only hO1 (by omega)
  have O1 := O0.trans hO1
  clear R0 Q0 O0 C0
  have HF1 : Hid (Sl w1 (w.heap.size + 1 + 1 + 1) w1.heap.size 1 u n' (sC F)) := hF1.mono (by simp; try omega) (Nat.le_refl _)
  clear hF1
  obtain ⟨Au, cu, rfl, _, _⟩ := id HF1.out.open_
  go_wp2_with fail
  refine (cellOf_any F n' (w.heap.size + 1 + 1 + 1) _ _ _ _ _ C1 (by omega) HF1.out (by omega) (Nat.le_refl _) hff).mono ?_
  rintro e w2 ⟨x, y, rfl, C2, hO2⟩
  have HF2 : Hid (Sl w2 (w.heap.size + 1 + 1 + 1) w2.heap.size 1 (.slice Au n' cu) n' (sC F)) := (HF1.out.onlyF hO2 (by omega) (Nat.le_refl _)).mono (Nat.le_refl _) hO2.size
  clear HF1
  have hz2 := hO2.size
  (try simp at hz2)
  have R2 := R1.only hO2 (by omega)
  have Q2 := Q1.only hO2 (by omega)
  have O2 := O1.trans hO2
  clear R1 Q1 O1 C1
  go_wp2_with fail
  refine (cellOf_any F n' (w.heap.size + 1 + 1 + 1) _ _ _ _ _ C2 (by omega) HF2.out (by omega) (Nat.le_refl _) hff).mono ?_
  rintro e w3 ⟨p, q, rfl, C3, hO3⟩
  have HF3 : Hid (Sl w3 (w.heap.size + 1 + 1 + 1) w3.heap.size 1 (.slice Au n' cu) n' (sC F)) := (HF2.out.onlyF hO3 (by omega) (Nat.le_refl _)).mono (Nat.le_refl _) hO3.size
  clear HF2
  have hz3 := hO3.size
  (try simp at hz3)
  have R3 := R2.only hO3 (by omega)
  have Q3 := Q2.only hO3 (by omega)
  have O3 := O2.trans hO3
  clear R2 Q2 O2 C2
  obtain ⟨r0, r1, rf, rl⟩ := R3
  obtain ⟨s0, s1, sf, sl⟩ := Q3
  have hb : Below w.heap.size w w3 := O3.below (by omega) (Nat.le_refl _)
  clear O3 C3
  go_wp2_with fail
  exact bodyPost_ret (v := .tuple #[.slice Au n' cu, .agg #[.int .i64 x, .int .i64 y], .agg #[.int .i64 p, .int .i64 q]]) (by simp [results, Tryd.results28, go_sem, *]) rfl ⟨_, _, F, _, _, _, _, rfl, ((sl_set (sl_set (sl_set (sl_set HF3.out (by simp; try omega) _) (by simp; try omega) _) (by simp; try omega) _) (by simp; try omega) _)).mono (by omega) (by simp [World.setCell]; try omega), hff, (by repeat (first | (with_reducible exact Below.refl _ _) | (with_reducible refine below_ov ?_ ?_) | (with_reducible refine Below.setCell ?_ ?_ _) | (with_reducible refine Below.alloc ?_ ?_ _) | (with_reducible refine Below.drew ?_) | (with_reducible refine below_drewN ?_ _) | (refine Below.trans ?_ (Below.mono ‹Below _ _ _› (by first | omega | (simp; done) | (simp; omega)))) | exact Below.refl _ _ | omega | (focus (simp; done)) | (focus (simp; omega))))⟩

set_option maxRecDepth 100000 in
set_option maxHeartbeats 3200000 in
theorem DrawHandWay_any (v : Value) (w : World) (h : Code w v) :
    Calls Tryd.prog 46 #[v] w fun e w' => ∃ (u : Value) (n : Nat) (F : Nat → ByteArray) (x y : Int) (b : Bool), e = .returned (.tuple #[u, .agg #[.int .i64 x, .int .i64 y], .bool b]) ∧ Sl w' w.heap.size w'.heap.size 1 u n (sC F) ∧ ffits F n ∧ Below w.heap.size w w' := by
  obtain ⟨A, n, cap, rfl⟩ := h.form
  have C0 : Cu ((w.alloc (.cells #[.int .i64 0, .int .i64 0] 38)).alloc (.cells #[.slice A n cap, .int .i64 0, .int .u64 0] 90)) (w.heap.size + 1) 0 := by
    have := Cu.start (h.below ((Below.refl _ _).alloc (Nat.le_refl _) (.cells #[.int .i64 0, .int .i64 0] 38)) (Nat.le_refl _)) 90
    simpa using this
  have R0 : BxI ((w.alloc (.cells #[.int .i64 0, .int .i64 0] 38)).alloc (.cells #[.slice A n cap, .int .i64 0, .int .u64 0] 90)) w.heap.size 0 0 := (BxI.new w 0 0 _).alloc _
  have O0 : Only (w.heap.size + 1) (w.heap.size + 1 + 1) w ((w.alloc (.cells #[.int .i64 0, .int .i64 0] 38)).alloc (.cells #[.slice A n cap, .int .i64 0, .int .u64 0] 90)) := ((Only.refl _ _ w).alloc _).alloc _
  go_enter Tryd.func46, Tryd.ntmps46
  go_wp2_with fail
  refine (floor_any _ _ _ C0 (by omega)).mono ?_
  rintro e w1 ⟨u, rfl, n', hs1, hn', C1, hO1⟩
  obtain ⟨F, hF1, hFs⟩ := hs1.sl
  have hff : ffits F n' := ⟨by omega, fun i hi => by have := hFs i hi; unfold maxLen; omega⟩
  clear hs1
  have hz1 := hO1.size
  (try simp at hz1)
  have R1 := R0.only hO1 (by omega)
  have O1 := O0.trans hO1
  clear R0 O0 C0
  have HF1 : Hid (Sl w1 (w.heap.size + 1 + 1) w1.heap.size 1 u n' (sC F)) := hF1.mono (by simp; try omega) (Nat.le_refl _)
  clear hF1
  obtain ⟨Au, cu, rfl, _, _⟩ := id HF1.out.open_
  go_wp2_with fail
  refine (cellOf_any F n' (w.heap.size + 1 + 1) _ _ _ _ _ C1 (by omega) HF1.out (by omega) (Nat.le_refl _) hff).mono ?_
  rintro e w2 ⟨x, y, rfl, C2, hO2⟩
  have HF2 : Hid (Sl w2 (w.heap.size + 1 + 1) w2.heap.size 1 (.slice Au n' cu) n' (sC F)) := (HF1.out.onlyF hO2 (by omega) (Nat.le_refl _)).mono (Nat.le_refl _) hO2.size
  clear HF1
  have hz2 := hO2.size
  (try simp at hz2)
  have R2 := R1.only hO2 (by omega)
  have O2 := O1.trans hO2
  clear R1 O1 C1
  go_wp2_with fail
  refine (one_any _ _ _ _ C2 (by omega)).mono ?_
  rintro e w3 ⟨b3, rfl, C3, hO3⟩
  have HF3 : Hid (Sl w3 (w.heap.size + 1 + 1) w3.heap.size 1 (.slice Au n' cu) n' (sC F)) := (HF2.out.onlyF hO3 (by omega) (Nat.le_refl _)).mono (Nat.le_refl _) hO3.size
  clear HF2
  have hz3 := hO3.size
  (try simp at hz3)
  have R3 := R2.only hO3 (by omega)
  have O3 := O2.trans hO3
  clear R2 O2 C2
  obtain ⟨r0, r1, rf, rl⟩ := R3
  have hb : Below w.heap.size w w3 := O3.below (by omega) (Nat.le_refl _)
  clear O3 C3
  go_wp2_with fail
  exact bodyPost_ret (v := .tuple #[.slice Au n' cu, .agg #[.int .i64 x, .int .i64 y], .bool b3]) (by simp [results, Tryd.results46, go_sem, *]) rfl ⟨_, _, F, _, _, _, rfl, ((sl_set (sl_set HF3.out (by simp; try omega) _) (by simp; try omega) _)).mono (by omega) (by simp [World.setCell]; try omega), hff, (by repeat (first | (with_reducible exact Below.refl _ _) | (with_reducible refine below_ov ?_ ?_) | (with_reducible refine Below.setCell ?_ ?_ _) | (with_reducible refine Below.alloc ?_ ?_ _) | (with_reducible refine Below.drew ?_) | (with_reducible refine below_drewN ?_ _) | (refine Below.trans ?_ (Below.mono ‹Below _ _ _› (by first | omega | (simp; done) | (simp; omega)))) | exact Below.refl _ _ | omega | (focus (simp; done)) | (focus (simp; omega))))⟩

end Go.Proofs.YtpckhpkbdanjoaaDoor

/-
  Rows of whole numbers of the call's own (WDrwT's words, without its types; taken out by gen_drwj.py).-/
namespace Go.Proofs.YtpckhpkbdanjoaaDoor
set_option linter.unusedVariables false
set_option linter.unusedSimpArgs false
open Go.RowKit

/-- A row of whole numbers of the call's own: n elements of sz cells. -/
def IRow (w : World) (lo sz : Nat) (v : Value) (n : Nat) : Prop :=
  (v = .slice none 0 0 ∧ n = 0) ∨ ∃ q cap, v = .slice (some ⟨q, 0, none⟩) n cap ∧ n ≤ cap ∧ lo ≤ q ∧ q < w.heap.size ∧ (∀ o, w.frozen? ⟨q, o, none⟩ = false) ∧ ∀ o, o < n * sz → ∃ x, w.cell? ⟨q, o, none⟩ = some (.int .i64 x)
section
variable {w w' : World} {lo sz n g E : Nat} {v : Value} {xs : List Value}
theorem IRow.of_own (h : w.ownsRow lo E sz v n xs) (hx : ∀ u ∈ xs, isI u = true) : IRow w lo sz v n := by
  rcases h.2 with ⟨h0, h1⟩ | ⟨q, cap, cur, rfl, hq, hh, hnc, _⟩
  · exact .inl ⟨h0, h1⟩
  · refine .inr ⟨q, cap, rfl, hnc, hq, (h.lt q rfl).2, fun o => h.frozenAt o, fun o ho => ?_⟩
    have h2 := h.cellAt o ho
    have h3 : o < xs.length := by rw [h.1]; exact ho
    rw [List.getElem?_eq_getElem h3] at h2
    obtain ⟨x, hx'⟩ := isI_int (hx _ (List.getElem_mem h3))
    exact ⟨x, by rw [h2, hx']⟩
theorem IRow.keep (h : IRow w lo sz v n) (hk : ∀ q, lo ≤ q → q < w.heap.size → w'.heap[q]? = w.heap[q]?) (hs : w.heap.size ≤ w'.heap.size) : IRow w' lo sz v n := by
  rcases h with h | ⟨q, cap, h0, h1, h2, h3, h4, h5⟩
  · exact .inl h
  · refine .inr ⟨q, cap, h0, h1, h2, by omega, fun o => (World.frozen?_of_block (a := ⟨q, o, none⟩) (hk q h2 h3)).trans (h4 o), fun o ho => ?_⟩
    obtain ⟨x, hx⟩ := h5 o ho
    exact ⟨x, (World.cell?_of_block (a := ⟨q, o, none⟩) (hk q h2 h3)).trans hx⟩
theorem IRow.only (h : IRow w lo sz v n) (hO : Only g (g + 1) w w') (hg : g < lo) : IRow w' lo sz v n := h.keep (fun q h1 h2 => hO.block q h2 (by omega)) hO.size
theorem IRow.alloc (h : IRow w lo sz v n) (o : Obj) : IRow (w.alloc o) lo sz v n := h.keep (fun q _ h2 => ((Below.refl _ _).alloc (Nat.le_refl _) o).block q h2) (by simp)
theorem IRow.below (h : IRow w lo sz v n) (hb : Below w.heap.size w w') : IRow w' lo sz v n := h.keep (fun q _ h2 => hb.block q h2) hb.size
theorem IRow.drewN (h : IRow w lo sz v n) (k : Nat) : IRow (w.drewN k) lo sz v n := h.keep (fun _ _ _ => rfl) (Nat.le_refl _)
theorem IRow.set {q cap o : Nat} (h : IRow w lo sz (.slice (some ⟨q, 0, none⟩) n cap) n) (x : Int) : IRow (w.setCell ⟨q, o, none⟩ (.int .i64 x)) lo sz (.slice (some ⟨q, 0, none⟩) n cap) n := by
  rcases h with ⟨h, _⟩ | ⟨q', cap', h0, h1, h2, h3, h4, h5⟩
  · cases h
  · cases h0
    refine .inr ⟨q, cap, rfl, h1, h2, by simp [World.setCell]; exact h3, fun o' => by simp [go_sem, h4], fun o' ho => ?_⟩
    obtain ⟨y, hy⟩ := h5 o' ho
    by_cases e : o' = o
    · subst e
      exact ⟨x, by simp [go_sem, hy]⟩
    · exact ⟨y, (World.cell?_setCell_other w ⟨q, o, none⟩ ⟨q, o', none⟩ _ (fun h => e (by cases h; rfl))).trans hy⟩
/-- A number that lies in a cell. -/
noncomputable def atI (w : World) (q o : Nat) : Int := match w.cell? ⟨q, o, none⟩ with
  | some (.int .i64 x) => x
  | _ => 0
theorem atI_eq {q o : Nat} (h : ∃ x, w.cell? ⟨q, o, none⟩ = some (.int .i64 x)) : w.cell? ⟨q, o, none⟩ = some (.int .i64 (atI w q o)) := by
  obtain ⟨x, hx⟩ := h
  rw [atI, hx]
theorem IRow.sl1 (h : IRow w lo 1 v n) : ∃ f : Nat → Int, Sl w lo w.heap.size 1 v n (fun i _ => .int .i64 (f i)) := by
  rcases h with ⟨rfl, rfl⟩ | ⟨q, cap, rfl, h1, h2, h3, h4, h5⟩
  · exact ⟨fun _ => 0, Sl.nil_⟩
  · refine ⟨fun i => atI w q i, _, _, rfl, h1, fun hn => ⟨q, 0, rfl, h2, h3, fun i j hi hj => ?_⟩⟩
    obtain rfl : j = 0 := by omega
    simp only [Nat.mul_one, Nat.add_zero, Nat.zero_add]
    exact atI_eq (h5 i (by omega))
theorem IRow.sl2 (h : IRow w lo 2 v n) : ∃ f k : Nat → Int, Sl w lo w.heap.size 2 v n (iiC f k) := by
  rcases h with ⟨rfl, rfl⟩ | ⟨q, cap, rfl, h1, h2, h3, h4, h5⟩
  · exact ⟨fun _ => 0, fun _ => 0, Sl.nil_⟩
  · refine ⟨fun i => atI w q (i * 2), fun i => atI w q (i * 2 + 1), _, _, rfl, h1, fun hn => ⟨q, 0, rfl, h2, h3, fun i j hi hj => ?_⟩⟩
    have hj' : j = 0 ∨ j = 1 := by omega
    rcases hj' with rfl | rfl
    · simp only [Nat.add_zero, Nat.zero_add]
      exact atI_eq (h5 (i * 2) (by omega))
    · simp only [Nat.zero_add]
      exact atI_eq (h5 (i * 2 + 1) (by omega))
end

end Go.Proofs.YtpckhpkbdanjoaaDoor

/-
  Walks: the reference's draws of cells to be searched (printed by gen_drwj.py).-/
namespace Go.Proofs.YtpckhpkbdanjoaaDoor
set_option linter.unusedVariables false
set_option linter.unusedSimpArgs false
open Go.RowKit

theorem infoCellJ : (Tryd.prog.info? 38).map (fun i => (i.zero, i.size, i.bytes)) = some (some (.agg #[.int .i64 0, .int .i64 0]), 2, 16) := by kernel_rfl
theorem row_keepJ {w w' : World} {lo E sz n : Nat} {v : Value} {xs : List Value} (h : w.ownsRow lo E sz v n xs) (hk : ∀ q, lo ≤ q → q < w.heap.size → w'.heap[q]? = w.heap[q]?) : w'.ownsRow lo E sz v n xs := by
  obtain ⟨hl, h1⟩ := id h
  refine ⟨hl, ?_⟩
  rcases h1 with h1 | ⟨q, cap, cur, rfl, hq, hh, r⟩
  · exact .inl h1
  · exact .inr ⟨q, cap, cur, rfl, hq, by rw [hk q hq (h.lt q rfl).2]; exact hh, r⟩
/-- A floor and a list of cells are drawn. -/
def CsRes (w : World) (e : Ending) (w' : World) : Prop := ∃ (u : Value) (n : Nat) (F : Nat → ByteArray) (t : Value) (m : Nat) (f k : Nat → Int), e = .returned (.tuple #[u, t]) ∧ m ≤ 1001 ∧ Sl w' w.heap.size w'.heap.size 2 t m (iiC f k) ∧ Sl w' w.heap.size w'.heap.size 1 u n (sC F) ∧ ffits F n ∧ Below w.heap.size w w'
set_option maxRecDepth 100000 in
set_option maxHeartbeats 6400000 in
theorem DrawSearchedCells_R (v : Value) (w : World) (h : Code w v) : Calls Tryd.prog 47 #[v] w (CsRes w) := by
  obtain ⟨A, n, cap, rfl⟩ := h.form
  have C0 : Cu (w.alloc (.cells #[.slice A n cap, .int .i64 0, .int .u64 0] 90)) (w.heap.size) 0 := by
    have := Cu.start h 90
    simpa using this
  have O0 : Only (w.heap.size) (w.heap.size + 1) w (w.alloc (.cells #[.slice A n cap, .int .i64 0, .int .u64 0] 90)) := (Only.refl _ _ w).alloc _
  obtain ⟨i0, hi0, iz0, iz1, iz2⟩ := info_parts infoCellJ
  go_enter Tryd.func47, Tryd.ntmps47
  go_wp2_with fail
  refine (floor_any _ _ _ C0 (by omega)).mono ?_
  rintro e w1 ⟨u, rfl, n', hs1, hn', C1, hO1⟩
  obtain ⟨F, hF1, hFs⟩ := hs1.sl
  have hff : ffits F n' := ⟨by omega, fun i hi => by have := hFs i hi; unfold maxLen; omega⟩
  clear hs1
  have hz1 := hO1.size
  simp at hz1
  have O1 := O0.trans hO1
  clear O0 C0 hO1
  obtain ⟨hi, hhi⟩ : ∃ hi, hi = w1.heap.size := ⟨_, rfl⟩
  have HF1 : Hid (Sl w1 (w.heap.size + 1) hi 1 u n' (sC F)) := by rw [hhi]; exact hF1.mono (by simp) (Nat.le_refl _)
  have hhi1 : hi ≤ w1.heap.size := by omega
  have hlo1 : w.heap.size + 1 ≤ hi := by omega
  clear hF1 hhi
  obtain ⟨Au, cu, rfl, _, _⟩ := id HF1.out.open_
  go_wp2_with fail
  refine (pick_any _ _ _ _ C1 (by omega)).mono ?_
  rintro e w2 ⟨v2, rfl, hv2, C2, hO2⟩
  have HF2 : Hid (Sl w2 (w.heap.size + 1) hi 1 (.slice Au n' cu) n' (sC F)) := HF1.out.onlyF hO2 (by omega) (by omega)
  have O2 := O1.trans hO2
  have hz2 := hO2.size
  clear  O1 C1 HF1 hO2
  go_wp2_with fail
  refine (one_any _ _ _ _ C2 (by omega)).mono ?_
  rintro e w3 ⟨b3, rfl, C3, hO3⟩
  have HF3 : Hid (Sl w3 (w.heap.size + 1) hi 1 (.slice Au n' cu) n' (sC F)) := HF2.out.onlyF hO3 (by omega) (by omega)
  have O3 := O2.trans hO3
  have hz3 := hO3.size
  clear  O2 C2 HF2 hO3
  cases b3 with
  | true =>
    go_wp2_with fail
    refine (pick_any _ _ _ _ C3 (by omega)).mono ?_
    rintro e w4 ⟨v4, rfl, hv4, C4, hO4⟩
    have HF4 : Hid (Sl w4 (w.heap.size + 1) hi 1 (.slice Au n' cu) n' (sC F)) := HF3.out.onlyF hO4 (by omega) (by omega)
    have O4 := O3.trans hO4
    have hz4 := hO4.size
    clear  O3 C3 HF3 hO4
    have z1000 : IntKind.i64.wrap (1000 + v4) = 1000 + v4 := IntWalk.i64_in _ (by omega)
    go_wp2_with fail
    refine (cellOf_any F n' (w.heap.size + 1) hi _ _ _ _ C4 (by omega) HF4.out (by omega) (by omega) hff).mono ?_
    rintro e w20 ⟨x, y, rfl, C20, hO20⟩
    have HF20 : Hid (Sl w20 (w.heap.size + 1) hi 1 (.slice Au n' cu) n' (sC F)) := HF4.out.onlyF hO20 (by omega) (by omega)
    have O20 := O4.trans hO20
    have hz20 := hO20.size
    clear  O4 C4 HF4 hO20
    go_wp2_with fail
    obtain ⟨b8, hb8⟩ : ∃ z, z = w20.heap.size := ⟨_, rfl⟩
    obtain ⟨w21, hw⟩ : ∃ W, W = w20.alloc (.cells #[.int .i64 x, .int .i64 y] 38) := ⟨_, rfl⟩
    have S21 : BxI w21 b8 x y := by rw [hw, hb8]; exact BxI.new _ _ _ _
    have hb21 : Below w20.heap.size w20 w21 := by rw [hw]; exact (Below.refl _ _).alloc (Nat.le_refl _) _
    have hg21 : w.heap.size < b8 ∧ hi ≤ b8 := by omega
    rw [← hw, ← hb8]
    clear hw hb8
    have HF21 : Hid (Sl w21 (w.heap.size + 1) hi 1 (.slice Au n' cu) n' (sC F)) := HF20.out.below hb21 (by omega)
    have O21 := O20.then_below hb21
    have C21 := C20.below hb21 (Nat.le_refl _)
    have hz21 := hb21.size
    clear  O20 C20 HF20 hb21
    obtain ⟨bs, hbs⟩ : ∃ z, z = w21.heap.size := ⟨_, rfl⟩
    have hbs1 : b8 < bs := by have := S21.lt; omega
    have hbs2 : bs ≤ w21.heap.size := by omega
    have hbs3 : hi ≤ bs := by omega
    have hbs4 : w.heap.size < bs := by omega
    clear hbs
    have hnn : 0 ≤ (1000 + v4) ∧ (1000 + v4) ≤ 1001 := by omega
    go_loopg [6] 1005 (fun gn lv wr => ∃ (k : Nat) (B : Option Addr) (cp : Nat) (xs : List Value) (x y : Int), (k : Int) ≤ (1000 + v4) ∧ (1000 + v4).toNat - k < gn ∧ lv = .slice B k cp ∧ Hid (wr.ownsRow bs 38 2 (.slice B k cp) k xs) ∧ Hid (∀ u ∈ xs, isI u = true) ∧ BxI wr b8 x y ∧ Cu wr (w.heap.size) (1000 + 300 * k) ∧ Only (w.heap.size) (w.heap.size + 1) w wr ∧ Hid (Sl wr (w.heap.size + 1) hi 1 (.slice Au n' cu) n' (sC F)) ∧ bs ≤ wr.heap.size)
    case atStart => exact ⟨0, none, 0, [], x, y, by omega, by omega, rfl, World.ownsRow_nil _ _ _ _, fun u hu => by simp at hu, S21, C21.more (by omega), O21, HF21.out, by omega⟩
    case round =>
      clear S21 C21 O21 HF21
      obtain ⟨k, B, cp, xs, x, y, hk, hgn, rfl, hown0, hxs, S50, C50, O50, HF50, hbr⟩ := hrel
      have hz50 := O50.size
      by_cases hkn : (k : Int) < (1000 + v4)
      · go_wp2_with fail
        refine (one_any _ _ _ _ C50 (by omega)).mono ?_
        rintro e w51 ⟨b51, rfl, C51, hO51⟩
        have hown := hide (row_only hown0.out hO51 (by omega))
        have S51 := S50.only hO51 (by omega)
        have HF51 : Hid (Sl w51 (w.heap.size + 1) hi 1 (.slice Au n' cu) n' (sC F)) := HF50.out.onlyF hO51 (by omega) (by omega)
        have O51 := O50.trans hO51
        have hz51 := hO51.size
        clear S50 O50 C50 HF50 hO51
        clear hown0
        cases b51 with
        | false =>
          obtain ⟨p0, p1, pf, pl⟩ := id S51
          go_wp2_with (at_builtin; refine wpList_append_own _ rfl _ _ 26 rfl bs 38 i0 (.agg #[.int .i64 0, .int .i64 0]) 2 16 Tryd.underlying26 hi0 iz0 iz1 iz2 rfl (by decide) _ _ _ rfl (hown.out.alloc _) ⟨w51.heap.size, 0, none⟩ 1 1 [.int .i64 x, .int .i64 y] rfl rfl (by
              intro i u hu
              match i, hu with
              | 0, hu => simp at hu; subst hu; simp [go_sem, Addr.add]
              | 1, hu => simp at hu; subst hu; simp [go_sem, Addr.add]) (by
              intro u hu
              simp at hu
              rcases hu with rfl | rfl <;> rfl) (by unfold maxLen; omega) (by omega) (by simp; omega) ?_)
          clear p0 p1 pf pl
          intro v' w70 hown2 hg2 _
          have hO70 : Only (w.heap.size) (w.heap.size + 1) w w70 := (O51.alloc _).grown hg2 (fun q hq => by have := (hown.out.lt q hq).1; omega)
          have hC70 : Cu w70 (w.heap.size) (1000 + 300 * k + 250) := (C51.alloc _).grown hg2 (fun q hq => by have := (hown.out.lt q hq).1; omega) |>.more (by omega)
          have hS70 : BxI w70 b8 x y := S51.keep (((hg2.block b8 (by have := S51.lt; simp; omega) (fun e => by have := (hown.out.lt b8 e.symm).1; omega))).trans (((Below.refl _ _).alloc (Nat.le_refl _) _).block b8 S51.lt)) (Nat.le_trans (by simp) hg2.size)
          have hF70 : Hid (Sl w70 (w.heap.size + 1) hi 1 (.slice Au n' cu) n' (sC F)) := HF51.out.keep fun q h1 h2 => ((hg2.block q (by simp; omega) (fun e => by have := (hown.out.lt q e.symm).1; omega))).trans (((Below.refl _ _).alloc (Nat.le_refl _) _).block q (by omega))
          have hz70 : w51.heap.size ≤ w70.heap.size := Nat.le_trans (by simp) hg2.size
          obtain ⟨B2, cp2, rfl⟩ := row_form hown2
          have hxs2 : Hid (∀ u ∈ xs ++ [.int .i64 x, .int .i64 y], isI u = true) := fun u hu => by
            rcases List.mem_append.1 hu with h1 | h1
            · exact hxs.out u h1
            · simp at h1
              rcases h1 with rfl | rfl <;> rfl
          have hown3 := hide hown2
          clear hown hown2 hg2 hxs C51 O51 S51 HF51
          go_wp2_with fail
          go_roundg ((1000 + v4).toNat - k)
          case measure => omega
          case rel => exact ⟨k + 1, B2, cp2, _, x, y, by omega, by omega, rfl, hown3.out, hxs2, hS70, hC70.more (by omega), hO70, hF70, by omega⟩
        | true =>
          go_wp2_with fail
          refine (cellOf_any F n' (w.heap.size + 1) hi _ _ _ _ C51 (by omega) HF51.out (by omega) (by omega) hff).mono ?_
          rintro e w52 ⟨x2, y2, rfl, C52, hO52⟩
          have hown52 := hide (row_only hown.out hO52 (by omega))
          have S52 := S51.only hO52 (by omega)
          have HF52 : Hid (Sl w52 (w.heap.size + 1) hi 1 (.slice Au n' cu) n' (sC F)) := HF51.out.onlyF hO52 (by omega) (by omega)
          have O52 := O51.trans hO52
          have hz52 := hO52.size
          clear S51 O51 C51 HF51 hO52
          clear hown
          have S53 : BxI ((w52.setCell ⟨b8, 0, none⟩ (.int .i64 x2)).setCell ⟨b8, 1, none⟩ (.int .i64 y2)) b8 x2 y2 := (S52.set0 x2).set1 y2
          have C53 : Cu ((w52.setCell ⟨b8, 0, none⟩ (.int .i64 x2)).setCell ⟨b8, 1, none⟩ (.int .i64 y2)) (w.heap.size) (1000 + 300 * k + 2 + 200) := (C52.set (p := ⟨b8, 0, none⟩) (by show w.heap.size < b8; omega) _).set (p := ⟨b8, 1, none⟩) (by show w.heap.size < b8; omega) _
          have O53 : Only (w.heap.size) (w.heap.size + 1) w ((w52.setCell ⟨b8, 0, none⟩ (.int .i64 x2)).setCell ⟨b8, 1, none⟩ (.int .i64 y2)) := (O52.setNew (a := ⟨b8, 0, none⟩) (by show w.heap.size ≤ b8; omega) _).setNew (a := ⟨b8, 1, none⟩) (by show w.heap.size ≤ b8; omega) _
          have hset : ∀ q, q ≠ b8 → ((w52.setCell ⟨b8, 0, none⟩ (.int .i64 x2)).setCell ⟨b8, 1, none⟩ (.int .i64 y2)).heap[q]? = w52.heap[q]? := fun q hq => (Deep.blk_setCell_other _ _ _ _ (by exact hq)).trans (Deep.blk_setCell_other _ _ _ _ (by exact hq))
          have HF53 : Hid (Sl ((w52.setCell ⟨b8, 0, none⟩ (.int .i64 x2)).setCell ⟨b8, 1, none⟩ (.int .i64 y2)) (w.heap.size + 1) hi 1 (.slice Au n' cu) n' (sC F)) := HF52.out.keep fun q h1 h2 => hset q (by omega)
          have hown : Hid (((w52.setCell ⟨b8, 0, none⟩ (.int .i64 x2)).setCell ⟨b8, 1, none⟩ (.int .i64 y2)).ownsRow bs 38 2 (.slice B k cp) k xs) := row_keepJ hown52.out fun q h1 h2 => hset q (by omega)
          obtain ⟨p0, p1, pf, pl⟩ := S52
          clear C52 O52 HF52 hown52 hset
          go_upto_region 11 with fail
          obtain ⟨w53, hw53⟩ : ∃ z, z = (w52.setCell ⟨b8, 0, none⟩ (.int .i64 x2)).setCell ⟨b8, 1, none⟩ (.int .i64 y2) := ⟨_, rfl⟩
          have hz53 : bs ≤ w53.heap.size ∧ hi ≤ w53.heap.size := by rw [hw53]; simp [World.setCell]; omega
          rw [← hw53] at S53 C53 O53 HF53 hown ⊢
          clear hw53 p0 p1 pf pl
          obtain ⟨p0, p1, pf, pl⟩ := id S53
          go_wp2_with (at_builtin; refine wpList_append_own _ rfl _ _ 26 rfl bs 38 i0 (.agg #[.int .i64 0, .int .i64 0]) 2 16 Tryd.underlying26 hi0 iz0 iz1 iz2 rfl (by decide) _ _ _ rfl (hown.out.alloc _) ⟨w53.heap.size, 0, none⟩ 1 1 [.int .i64 x2, .int .i64 y2] rfl rfl (by
              intro i u hu
              match i, hu with
              | 0, hu => simp at hu; subst hu; simp [go_sem, Addr.add]
              | 1, hu => simp at hu; subst hu; simp [go_sem, Addr.add]) (by
              intro u hu
              simp at hu
              rcases hu with rfl | rfl <;> rfl) (by unfold maxLen; omega) (by omega) (by simp; omega) ?_)
          clear p0 p1 pf pl
          intro v' w70 hown2 hg2 _
          have hO70 : Only (w.heap.size) (w.heap.size + 1) w w70 := (O53.alloc _).grown hg2 (fun q hq => by have := (hown.out.lt q hq).1; omega)
          have hC70 : Cu w70 (w.heap.size) (1000 + 300 * k + 250) := (C53.alloc _).grown hg2 (fun q hq => by have := (hown.out.lt q hq).1; omega) |>.more (by omega)
          have hS70 : BxI w70 b8 x2 y2 := S53.keep (((hg2.block b8 (by have := S53.lt; simp; omega) (fun e => by have := (hown.out.lt b8 e.symm).1; omega))).trans (((Below.refl _ _).alloc (Nat.le_refl _) _).block b8 S53.lt)) (Nat.le_trans (by simp) hg2.size)
          have hF70 : Hid (Sl w70 (w.heap.size + 1) hi 1 (.slice Au n' cu) n' (sC F)) := HF53.out.keep fun q h1 h2 => ((hg2.block q (by simp; omega) (fun e => by have := (hown.out.lt q e.symm).1; omega))).trans (((Below.refl _ _).alloc (Nat.le_refl _) _).block q (by omega))
          have hz70 : w53.heap.size ≤ w70.heap.size := Nat.le_trans (by simp) hg2.size
          obtain ⟨B2, cp2, rfl⟩ := row_form hown2
          have hxs2 : Hid (∀ u ∈ xs ++ [.int .i64 x2, .int .i64 y2], isI u = true) := fun u hu => by
            rcases List.mem_append.1 hu with h1 | h1
            · exact hxs.out u h1
            · simp at h1
              rcases h1 with rfl | rfl <;> rfl
          have hown3 := hide hown2
          clear hown hown2 hg2 hxs C53 O53 S53 HF53
          go_wp2_with fail
          go_roundg ((1000 + v4).toNat - k)
          case measure => omega
          case rel => exact ⟨k + 1, B2, cp2, _, x2, y2, by omega, by omega, rfl, hown3.out, hxs2, hS70, hC70.more (by omega), hO70, hF70, by omega⟩
      · have hR : IRow wr bs 2 (.slice B k cp) k := IRow.of_own hown0.out hxs.out
        obtain ⟨f, kk, hsl⟩ := hR.sl2
        have HSL := hide hsl
        have hb : Below w.heap.size w wr := O50.below (Nat.le_refl _) (Nat.le_refl _)
        clear hR hsl hown0 hxs O50 C50 S50
        go_wp2_with fail
        go_ret2
        exact ⟨_, n', F, _, k, f, kk, rfl, by omega, HSL.out.mono (by omega) (Nat.le_refl _), HF50.out.mono (by omega) (by omega), hff, hb⟩
  | false =>
    go_wp2_with fail
    refine (cellOf_any F n' (w.heap.size + 1) hi _ _ _ _ C3 (by omega) HF3.out (by omega) (by omega) hff).mono ?_
    rintro e w20 ⟨x, y, rfl, C20, hO20⟩
    have HF20 : Hid (Sl w20 (w.heap.size + 1) hi 1 (.slice Au n' cu) n' (sC F)) := HF3.out.onlyF hO20 (by omega) (by omega)
    have O20 := O3.trans hO20
    have hz20 := hO20.size
    clear  O3 C3 HF3 hO20
    go_wp2_with fail
    obtain ⟨b8, hb8⟩ : ∃ z, z = w20.heap.size := ⟨_, rfl⟩
    obtain ⟨w21, hw⟩ : ∃ W, W = w20.alloc (.cells #[.int .i64 x, .int .i64 y] 38) := ⟨_, rfl⟩
    have S21 : BxI w21 b8 x y := by rw [hw, hb8]; exact BxI.new _ _ _ _
    have hb21 : Below w20.heap.size w20 w21 := by rw [hw]; exact (Below.refl _ _).alloc (Nat.le_refl _) _
    have hg21 : w.heap.size < b8 ∧ hi ≤ b8 := by omega
    rw [← hw, ← hb8]
    clear hw hb8
    have HF21 : Hid (Sl w21 (w.heap.size + 1) hi 1 (.slice Au n' cu) n' (sC F)) := HF20.out.below hb21 (by omega)
    have O21 := O20.then_below hb21
    have C21 := C20.below hb21 (Nat.le_refl _)
    have hz21 := hb21.size
    clear  O20 C20 HF20 hb21
    obtain ⟨bs, hbs⟩ : ∃ z, z = w21.heap.size := ⟨_, rfl⟩
    have hbs1 : b8 < bs := by have := S21.lt; omega
    have hbs2 : bs ≤ w21.heap.size := by omega
    have hbs3 : hi ≤ bs := by omega
    have hbs4 : w.heap.size < bs := by omega
    clear hbs
    have hnn : 0 ≤ v2 ∧ v2 ≤ 1001 := by omega
    go_loopg [6] 1005 (fun gn lv wr => ∃ (k : Nat) (B : Option Addr) (cp : Nat) (xs : List Value) (x y : Int), (k : Int) ≤ v2 ∧ v2.toNat - k < gn ∧ lv = .slice B k cp ∧ Hid (wr.ownsRow bs 38 2 (.slice B k cp) k xs) ∧ Hid (∀ u ∈ xs, isI u = true) ∧ BxI wr b8 x y ∧ Cu wr (w.heap.size) (1000 + 300 * k) ∧ Only (w.heap.size) (w.heap.size + 1) w wr ∧ Hid (Sl wr (w.heap.size + 1) hi 1 (.slice Au n' cu) n' (sC F)) ∧ bs ≤ wr.heap.size)
    case atStart => exact ⟨0, none, 0, [], x, y, by omega, by omega, rfl, World.ownsRow_nil _ _ _ _, fun u hu => by simp at hu, S21, C21.more (by omega), O21, HF21.out, by omega⟩
    case round =>
      clear S21 C21 O21 HF21
      obtain ⟨k, B, cp, xs, x, y, hk, hgn, rfl, hown0, hxs, S50, C50, O50, HF50, hbr⟩ := hrel
      have hz50 := O50.size
      by_cases hkn : (k : Int) < v2
      · go_wp2_with fail
        refine (one_any _ _ _ _ C50 (by omega)).mono ?_
        rintro e w51 ⟨b51, rfl, C51, hO51⟩
        have hown := hide (row_only hown0.out hO51 (by omega))
        have S51 := S50.only hO51 (by omega)
        have HF51 : Hid (Sl w51 (w.heap.size + 1) hi 1 (.slice Au n' cu) n' (sC F)) := HF50.out.onlyF hO51 (by omega) (by omega)
        have O51 := O50.trans hO51
        have hz51 := hO51.size
        clear S50 O50 C50 HF50 hO51
        clear hown0
        cases b51 with
        | false =>
          obtain ⟨p0, p1, pf, pl⟩ := id S51
          go_wp2_with (at_builtin; refine wpList_append_own _ rfl _ _ 26 rfl bs 38 i0 (.agg #[.int .i64 0, .int .i64 0]) 2 16 Tryd.underlying26 hi0 iz0 iz1 iz2 rfl (by decide) _ _ _ rfl (hown.out.alloc _) ⟨w51.heap.size, 0, none⟩ 1 1 [.int .i64 x, .int .i64 y] rfl rfl (by
              intro i u hu
              match i, hu with
              | 0, hu => simp at hu; subst hu; simp [go_sem, Addr.add]
              | 1, hu => simp at hu; subst hu; simp [go_sem, Addr.add]) (by
              intro u hu
              simp at hu
              rcases hu with rfl | rfl <;> rfl) (by unfold maxLen; omega) (by omega) (by simp; omega) ?_)
          clear p0 p1 pf pl
          intro v' w70 hown2 hg2 _
          have hO70 : Only (w.heap.size) (w.heap.size + 1) w w70 := (O51.alloc _).grown hg2 (fun q hq => by have := (hown.out.lt q hq).1; omega)
          have hC70 : Cu w70 (w.heap.size) (1000 + 300 * k + 250) := (C51.alloc _).grown hg2 (fun q hq => by have := (hown.out.lt q hq).1; omega) |>.more (by omega)
          have hS70 : BxI w70 b8 x y := S51.keep (((hg2.block b8 (by have := S51.lt; simp; omega) (fun e => by have := (hown.out.lt b8 e.symm).1; omega))).trans (((Below.refl _ _).alloc (Nat.le_refl _) _).block b8 S51.lt)) (Nat.le_trans (by simp) hg2.size)
          have hF70 : Hid (Sl w70 (w.heap.size + 1) hi 1 (.slice Au n' cu) n' (sC F)) := HF51.out.keep fun q h1 h2 => ((hg2.block q (by simp; omega) (fun e => by have := (hown.out.lt q e.symm).1; omega))).trans (((Below.refl _ _).alloc (Nat.le_refl _) _).block q (by omega))
          have hz70 : w51.heap.size ≤ w70.heap.size := Nat.le_trans (by simp) hg2.size
          obtain ⟨B2, cp2, rfl⟩ := row_form hown2
          have hxs2 : Hid (∀ u ∈ xs ++ [.int .i64 x, .int .i64 y], isI u = true) := fun u hu => by
            rcases List.mem_append.1 hu with h1 | h1
            · exact hxs.out u h1
            · simp at h1
              rcases h1 with rfl | rfl <;> rfl
          have hown3 := hide hown2
          clear hown hown2 hg2 hxs C51 O51 S51 HF51
          go_wp2_with fail
          go_roundg (v2.toNat - k)
          case measure => omega
          case rel => exact ⟨k + 1, B2, cp2, _, x, y, by omega, by omega, rfl, hown3.out, hxs2, hS70, hC70.more (by omega), hO70, hF70, by omega⟩
        | true =>
          go_wp2_with fail
          refine (cellOf_any F n' (w.heap.size + 1) hi _ _ _ _ C51 (by omega) HF51.out (by omega) (by omega) hff).mono ?_
          rintro e w52 ⟨x2, y2, rfl, C52, hO52⟩
          have hown52 := hide (row_only hown.out hO52 (by omega))
          have S52 := S51.only hO52 (by omega)
          have HF52 : Hid (Sl w52 (w.heap.size + 1) hi 1 (.slice Au n' cu) n' (sC F)) := HF51.out.onlyF hO52 (by omega) (by omega)
          have O52 := O51.trans hO52
          have hz52 := hO52.size
          clear S51 O51 C51 HF51 hO52
          clear hown
          have S53 : BxI ((w52.setCell ⟨b8, 0, none⟩ (.int .i64 x2)).setCell ⟨b8, 1, none⟩ (.int .i64 y2)) b8 x2 y2 := (S52.set0 x2).set1 y2
          have C53 : Cu ((w52.setCell ⟨b8, 0, none⟩ (.int .i64 x2)).setCell ⟨b8, 1, none⟩ (.int .i64 y2)) (w.heap.size) (1000 + 300 * k + 2 + 200) := (C52.set (p := ⟨b8, 0, none⟩) (by show w.heap.size < b8; omega) _).set (p := ⟨b8, 1, none⟩) (by show w.heap.size < b8; omega) _
          have O53 : Only (w.heap.size) (w.heap.size + 1) w ((w52.setCell ⟨b8, 0, none⟩ (.int .i64 x2)).setCell ⟨b8, 1, none⟩ (.int .i64 y2)) := (O52.setNew (a := ⟨b8, 0, none⟩) (by show w.heap.size ≤ b8; omega) _).setNew (a := ⟨b8, 1, none⟩) (by show w.heap.size ≤ b8; omega) _
          have hset : ∀ q, q ≠ b8 → ((w52.setCell ⟨b8, 0, none⟩ (.int .i64 x2)).setCell ⟨b8, 1, none⟩ (.int .i64 y2)).heap[q]? = w52.heap[q]? := fun q hq => (Deep.blk_setCell_other _ _ _ _ (by exact hq)).trans (Deep.blk_setCell_other _ _ _ _ (by exact hq))
          have HF53 : Hid (Sl ((w52.setCell ⟨b8, 0, none⟩ (.int .i64 x2)).setCell ⟨b8, 1, none⟩ (.int .i64 y2)) (w.heap.size + 1) hi 1 (.slice Au n' cu) n' (sC F)) := HF52.out.keep fun q h1 h2 => hset q (by omega)
          have hown : Hid (((w52.setCell ⟨b8, 0, none⟩ (.int .i64 x2)).setCell ⟨b8, 1, none⟩ (.int .i64 y2)).ownsRow bs 38 2 (.slice B k cp) k xs) := row_keepJ hown52.out fun q h1 h2 => hset q (by omega)
          obtain ⟨p0, p1, pf, pl⟩ := S52
          clear C52 O52 HF52 hown52 hset
          go_upto_region 11 with fail
          obtain ⟨w53, hw53⟩ : ∃ z, z = (w52.setCell ⟨b8, 0, none⟩ (.int .i64 x2)).setCell ⟨b8, 1, none⟩ (.int .i64 y2) := ⟨_, rfl⟩
          have hz53 : bs ≤ w53.heap.size ∧ hi ≤ w53.heap.size := by rw [hw53]; simp [World.setCell]; omega
          rw [← hw53] at S53 C53 O53 HF53 hown ⊢
          clear hw53 p0 p1 pf pl
          obtain ⟨p0, p1, pf, pl⟩ := id S53
          go_wp2_with (at_builtin; refine wpList_append_own _ rfl _ _ 26 rfl bs 38 i0 (.agg #[.int .i64 0, .int .i64 0]) 2 16 Tryd.underlying26 hi0 iz0 iz1 iz2 rfl (by decide) _ _ _ rfl (hown.out.alloc _) ⟨w53.heap.size, 0, none⟩ 1 1 [.int .i64 x2, .int .i64 y2] rfl rfl (by
              intro i u hu
              match i, hu with
              | 0, hu => simp at hu; subst hu; simp [go_sem, Addr.add]
              | 1, hu => simp at hu; subst hu; simp [go_sem, Addr.add]) (by
              intro u hu
              simp at hu
              rcases hu with rfl | rfl <;> rfl) (by unfold maxLen; omega) (by omega) (by simp; omega) ?_)
          clear p0 p1 pf pl
          intro v' w70 hown2 hg2 _
          have hO70 : Only (w.heap.size) (w.heap.size + 1) w w70 := (O53.alloc _).grown hg2 (fun q hq => by have := (hown.out.lt q hq).1; omega)
          have hC70 : Cu w70 (w.heap.size) (1000 + 300 * k + 250) := (C53.alloc _).grown hg2 (fun q hq => by have := (hown.out.lt q hq).1; omega) |>.more (by omega)
          have hS70 : BxI w70 b8 x2 y2 := S53.keep (((hg2.block b8 (by have := S53.lt; simp; omega) (fun e => by have := (hown.out.lt b8 e.symm).1; omega))).trans (((Below.refl _ _).alloc (Nat.le_refl _) _).block b8 S53.lt)) (Nat.le_trans (by simp) hg2.size)
          have hF70 : Hid (Sl w70 (w.heap.size + 1) hi 1 (.slice Au n' cu) n' (sC F)) := HF53.out.keep fun q h1 h2 => ((hg2.block q (by simp; omega) (fun e => by have := (hown.out.lt q e.symm).1; omega))).trans (((Below.refl _ _).alloc (Nat.le_refl _) _).block q (by omega))
          have hz70 : w53.heap.size ≤ w70.heap.size := Nat.le_trans (by simp) hg2.size
          obtain ⟨B2, cp2, rfl⟩ := row_form hown2
          have hxs2 : Hid (∀ u ∈ xs ++ [.int .i64 x2, .int .i64 y2], isI u = true) := fun u hu => by
            rcases List.mem_append.1 hu with h1 | h1
            · exact hxs.out u h1
            · simp at h1
              rcases h1 with rfl | rfl <;> rfl
          have hown3 := hide hown2
          clear hown hown2 hg2 hxs C53 O53 S53 HF53
          go_wp2_with fail
          go_roundg (v2.toNat - k)
          case measure => omega
          case rel => exact ⟨k + 1, B2, cp2, _, x2, y2, by omega, by omega, rfl, hown3.out, hxs2, hS70, hC70.more (by omega), hO70, hF70, by omega⟩
      · have hR : IRow wr bs 2 (.slice B k cp) k := IRow.of_own hown0.out hxs.out
        obtain ⟨f, kk, hsl⟩ := hR.sl2
        have HSL := hide hsl
        have hb : Below w.heap.size w wr := O50.below (Nat.le_refl _) (Nat.le_refl _)
        clear hR hsl hown0 hxs O50 C50 S50
        go_wp2_with fail
        go_ret2
        exact ⟨_, n', F, _, k, f, kk, rfl, by omega, HSL.out.mono (by omega) (Nat.le_refl _), HF50.out.mono (by omega) (by omega), hff, hb⟩
theorem DrawSearchedCells_any (v : Value) (w : World) (h : Code w v) :
    Calls Tryd.prog 47 #[v] w fun e w' => ∃ (u : Value) (n : Nat) (F : Nat → ByteArray) (t : Value) (m : Nat) (f k : Nat → Int), e = .returned (.tuple #[u, t]) ∧ m ≤ 1001 ∧ Sl w' w.heap.size w'.heap.size 2 t m (iiC f k) ∧ Sl w' w.heap.size w'.heap.size 1 u n (sC F) ∧ ffits F n ∧ Below w.heap.size w w' :=
  DrawSearchedCells_R v w h

end Go.Proofs.YtpckhpkbdanjoaaDoor
