/-
  Texts of this proof, one behind the other (part 7).
-/
import Derived.Test.YtpckhpkbdanjoaaDoorQ6
import Derived.Ground.NamesProg
import Derived.Shelf.Lay
import Derived.Shelf.Strings.Search3
/-
  Walks: the reference's draws of floors and cells (printed by gen_drwh.py).-/
namespace Go.Proofs.YtpckhpkbdanjoaaDoor
set_option linter.unusedVariables false
set_option linter.unusedSimpArgs false
open Go.RowKit

theorem sl_set {w : World} {lo hi sz n : Nat} {v : Value} {c : Nat → Nat → Value} (h : Sl w lo hi sz v n c) {a : Addr} (ha : a.block < lo) (u : Value) : Sl (w.setCell a u) lo hi sz v n c :=
  h.keep fun q h1 _ => Deep.blk_setCell_other _ _ _ _ (by omega)
set_option maxRecDepth 100000 in
set_option maxHeartbeats 3200000 in
theorem DrawIsFloor_any (v : Value) (w : World) (h : Code w v) :
    Calls Tryd.prog 86 #[v] w fun e w' => ∃ (u : Value) (n : Nat) (F : Nat → ByteArray), e = .returned u ∧ Sl w' w.heap.size w'.heap.size 1 u n (sC F) ∧ ffits F n ∧ Below w.heap.size w w' := by
  obtain ⟨A, n, cap, rfl⟩ := h.form
  have C0 : Cu (w.alloc (.cells #[.slice A n cap, .int .i64 0, .int .u64 0] 90)) (w.heap.size) 0 := by
    have := Cu.start h 90
    simpa using this
  have O0 : Only (w.heap.size) (w.heap.size + 1) w (w.alloc (.cells #[.slice A n cap, .int .i64 0, .int .u64 0] 90)) := (Only.refl _ _ w).alloc _
  go_enter Tryd.func86, Tryd.ntmps86
  go_wp2_with fail
  refine (floor_any _ _ _ C0 (by omega)).mono ?_
  rintro e w1 ⟨u, rfl, n', hs1, hn', C1, hO1⟩
  obtain ⟨F, hF1, hFs⟩ := hs1.sl
  have hff : ffits F n' := ⟨by omega, fun i hi => by have := hFs i hi; unfold maxLen; omega⟩
  clear hs1
  have hz1 := hO1.size
  (try simp at hz1)
  have O1 := O0.trans hO1
  clear O0 C0
  have HF1 : Hid (Sl w1 (w.heap.size + 1) w1.heap.size 1 u n' (sC F)) := hF1.mono (by simp; try omega) (Nat.le_refl _)
  clear hF1
  obtain ⟨Au, cu, rfl, _, _⟩ := id HF1.out.open_
  have hb : Below w.heap.size w w1 := O1.below (by omega) (Nat.le_refl _)
  clear O1 C1
  go_wp2_with fail
  go_ret
  exact ⟨_, _, F, rfl, HF1.out.mono (by omega) (Nat.le_refl _), hff, hb⟩

set_option maxRecDepth 100000 in
set_option maxHeartbeats 3200000 in
theorem DrawCountOpen_any (v : Value) (w : World) (h : Code w v) :
    Calls Tryd.prog 38 #[v] w fun e w' => ∃ (u : Value) (n : Nat) (F : Nat → ByteArray), e = .returned u ∧ Sl w' w.heap.size w'.heap.size 1 u n (sC F) ∧ ffits F n ∧ Below w.heap.size w w' := by
  go_enter Tryd.func38, Tryd.ntmps38
  go_wp2_with fail
  refine (DrawIsFloor_any v _ h).mono ?_
  rintro e w1 ⟨u, n', F, rfl, hs, hff, hb⟩
  obtain ⟨Au, cu, rfl, _, _⟩ := id hs.open_
  go_wp2_with fail
  go_ret
  exact ⟨_, _, F, rfl, hs, hff, hb⟩

set_option maxRecDepth 100000 in
set_option maxHeartbeats 3200000 in
theorem DrawIsOpenCell_any (v : Value) (w : World) (h : Code w v) :
    Calls Tryd.prog 41 #[v] w fun e w' => ∃ (u : Value) (n : Nat) (F : Nat → ByteArray) (x y : Int), e = .returned (.tuple #[u, .agg #[.int .i64 x, .int .i64 y]]) ∧ Sl w' w.heap.size w'.heap.size 1 u n (sC F) ∧ ffits F n ∧ Below w.heap.size w w' := by
  obtain ⟨A, n, cap, rfl⟩ := h.form
  have C0 : Cu ((w.alloc (.cells #[.int .i64 0, .int .i64 0] 38)).alloc (.cells #[.slice A n cap, .int .i64 0, .int .u64 0] 90)) (w.heap.size + 1) 0 := by
    have := Cu.start (h.below ((Below.refl _ _).alloc (Nat.le_refl _) (.cells #[.int .i64 0, .int .i64 0] 38)) (Nat.le_refl _)) 90
    simpa using this
  have R0 : BxI ((w.alloc (.cells #[.int .i64 0, .int .i64 0] 38)).alloc (.cells #[.slice A n cap, .int .i64 0, .int .u64 0] 90)) w.heap.size 0 0 := (BxI.new w 0 0 _).alloc _
  have O0 : Only (w.heap.size + 1) (w.heap.size + 1 + 1) w ((w.alloc (.cells #[.int .i64 0, .int .i64 0] 38)).alloc (.cells #[.slice A n cap, .int .i64 0, .int .u64 0] 90)) := ((Only.refl _ _ w).alloc _).alloc _
  go_enter Tryd.func41, Tryd.ntmps41
  go_wp2_with fail
  refine (floor_any _ _ _ C0 (by omega)).mono ?_
  rintro e w1 ⟨u, rfl, n', hs1, hn', C1, hO1⟩
  obtain ⟨F, hF1, hFs⟩ := hs1.sl
  have hff : ffits F n' := ⟨by omega, fun i hi => by have := hFs i hi; unfold maxLen; omega⟩
  clear hs1
  have hz1 := hO1.size
  (try simp at hz1)
  have R1 := R0.only hO1 (by omega)
  have O1 := O0.trans hO1
  clear R0 O0 C0
  have HF1 : Hid (Sl w1 (w.heap.size + 1 + 1) w1.heap.size 1 u n' (sC F)) := hF1.mono (by simp; try omega) (Nat.le_refl _)
  clear hF1
  obtain ⟨Au, cu, rfl, _, _⟩ := id HF1.out.open_
  go_wp2_with fail
  refine (one_any _ _ _ _ C1 (by omega)).mono ?_
  rintro e w2 ⟨b2, rfl, C2, hO2⟩
  have HF2 : Hid (Sl w2 (w.heap.size + 1 + 1) w2.heap.size 1 (.slice Au n' cu) n' (sC F)) := (HF1.out.onlyF hO2 (by omega) (Nat.le_refl _)).mono (Nat.le_refl _) hO2.size
  clear HF1
  have hz2 := hO2.size
  (try simp at hz2)
  have R2 := R1.only hO2 (by omega)
  have O2 := O1.trans hO2
  clear R1 O1 C1
  cases b2 with
  | true =>
    go_wp2_with fail
    refine (pick_any _ _ _ _ C2 (by omega)).mono ?_
    rintro e w3 ⟨v3, rfl, hv3, C3, hO3⟩
    have HF3 : Hid (Sl w3 (w.heap.size + 1 + 1) w3.heap.size 1 (.slice Au n' cu) n' (sC F)) := (HF2.out.onlyF hO3 (by omega) (Nat.le_refl _)).mono (Nat.le_refl _) hO3.size
    clear HF2
    have hz3 := hO3.size
    (try simp at hz3)
    have R3 := R2.only hO3 (by omega)
    have O3 := O2.trans hO3
    clear R2 O2 C2
    go_wp2_with fail
    refine (pick_any _ _ _ _ C3 (by omega)).mono ?_
    rintro e w4 ⟨v4, rfl, hv4, C4, hO4⟩
    have HF4 : Hid (Sl w4 (w.heap.size + 1 + 1) w4.heap.size 1 (.slice Au n' cu) n' (sC F)) := (HF3.out.onlyF hO4 (by omega) (Nat.le_refl _)).mono (Nat.le_refl _) hO4.size
    clear HF3
    have hz4 := hO4.size
    (try simp at hz4)
    have R4 := R3.only hO4 (by omega)
    have O4 := O3.trans hO4
    clear R3 O3 C3
    have z1 : IntKind.i64.wrap (v3 - 1) = v3 - 1 := IntWalk.i64_in _ (by omega)
    have z2 : IntKind.i64.wrap (v4 - 1) = v4 - 1 := IntWalk.i64_in _ (by omega)
    obtain ⟨r0, r1, rf, rl⟩ := R4
    have hb : Below w.heap.size w w4 := O4.below (by omega) (Nat.le_refl _)
    clear O4 C4
    go_wp2_with fail
    exact bodyPost_ret (v := .tuple #[.slice Au n' cu, .agg #[.int .i64 (v3 - 1), .int .i64 (v4 - 1)]]) (by simp [results, Tryd.results41, go_sem, *]) rfl ⟨_, _, F, _, _, rfl, ((sl_set (sl_set HF4.out (by simp; try omega) _) (by simp; try omega) _)).mono (by omega) (by simp [World.setCell]; try omega), hff, (by repeat (first | (with_reducible exact Below.refl _ _) | (with_reducible refine below_ov ?_ ?_) | (with_reducible refine Below.setCell ?_ ?_ _) | (with_reducible refine Below.alloc ?_ ?_ _) | (with_reducible refine Below.drew ?_) | (with_reducible refine below_drewN ?_ _) | (refine Below.trans ?_ (Below.mono ‹Below _ _ _› (by first | omega | (simp; done) | (simp; omega)))) | exact Below.refl _ _ | omega | (focus (simp; done)) | (focus (simp; omega))))⟩
  | false =>
    go_wp2_with fail
    refine (cellOf_any F n' (w.heap.size + 1 + 1) _ _ _ _ _ C2 (by omega) HF2.out (by omega) (Nat.le_refl _) hff).mono ?_
    rintro e w3 ⟨x, y, rfl, C3, hO3⟩
    have HF3 : Hid (Sl w3 (w.heap.size + 1 + 1) w3.heap.size 1 (.slice Au n' cu) n' (sC F)) := (HF2.out.onlyF hO3 (by omega) (Nat.le_refl _)).mono (Nat.le_refl _) hO3.size
    clear HF2
    have hz3 := hO3.size
    (try simp at hz3)
    have R3 := R2.only hO3 (by omega)
    have O3 := O2.trans hO3
    clear R2 O2 C2
    obtain ⟨r0, r1, rf, rl⟩ := R3
    have hb : Below w.heap.size w w3 := O3.below (by omega) (Nat.le_refl _)
    clear O3 C3
    go_wp2_with fail
    exact bodyPost_ret (v := .tuple #[.slice Au n' cu, .agg #[.int .i64 x, .int .i64 y]]) (by simp [results, Tryd.results41, go_sem, *]) rfl ⟨_, _, F, _, _, rfl, ((sl_set (sl_set HF3.out (by simp; try omega) _) (by simp; try omega) _)).mono (by omega) (by simp [World.setCell]; try omega), hff, (by repeat (first | (with_reducible exact Below.refl _ _) | (with_reducible refine below_ov ?_ ?_) | (with_reducible refine Below.setCell ?_ ?_ _) | (with_reducible refine Below.alloc ?_ ?_ _) | (with_reducible refine Below.drew ?_) | (with_reducible refine below_drewN ?_ _) | (refine Below.trans ?_ (Below.mono ‹Below _ _ _› (by first | omega | (simp; done) | (simp; omega)))) | exact Below.refl _ _ | omega | (focus (simp; done)) | (focus (simp; omega))))⟩

set_option maxRecDepth 100000 in
set_option maxHeartbeats 3200000 in
theorem DrawWayBack_any (v : Value) (w : World) (h : Code w v) :
    Calls Tryd.prog 28 #[v] w fun e w' => ∃ (u : Value) (n : Nat) (F : Nat → ByteArray) (x y p q : Int), e = .returned (.tuple #[u, .agg #[.int .i64 x, .int .i64 y], .agg #[.int .i64 p, .int .i64 q]]) ∧ Sl w' w.heap.size w'.heap.size 1 u n (sC F) ∧ ffits F n ∧ Below w.heap.size w w' := by
  obtain ⟨A, n, cap, rfl⟩ := h.form
  have C0 : Cu (((w.alloc (.cells #[.int .i64 0, .int .i64 0] 38)).alloc (.cells #[.int .i64 0, .int .i64 0] 38)).alloc (.cells #[.slice A n cap, .int .i64 0, .int .u64 0] 90)) (w.heap.size + 1 + 1) 0 := by
    have := Cu.start ((h.below ((Below.refl _ _).alloc (Nat.le_refl _) (.cells #[.int .i64 0, .int .i64 0] 38)) (Nat.le_refl _)).below ((Below.refl _ _).alloc (Nat.le_refl _) (.cells #[.int .i64 0, .int .i64 0] 38)) (Nat.le_refl _)) 90
    simpa using this
  have R0 : BxI (((w.alloc (.cells #[.int .i64 0, .int .i64 0] 38)).alloc (.cells #[.int .i64 0, .int .i64 0] 38)).alloc (.cells #[.slice A n cap, .int .i64 0, .int .u64 0] 90)) w.heap.size 0 0 := ((BxI.new w 0 0 _).alloc _).alloc _
  have Q0 : BxI (((w.alloc (.cells #[.int .i64 0, .int .i64 0] 38)).alloc (.cells #[.int .i64 0, .int .i64 0] 38)).alloc (.cells #[.slice A n cap, .int .i64 0, .int .u64 0] 90)) (w.heap.size + 1) 0 0 := by
    have := (BxI.new (w.alloc (.cells #[.int .i64 0, .int .i64 0] 38)) 0 0 38).alloc (.cells #[.slice A n cap, .int .i64 0, .int .u64 0] 90)
    simpa using this
  have O0 : Only (w.heap.size + 1 + 1) (w.heap.size + 1 + 1 + 1) w (((w.alloc (.cells #[.int .i64 0, .int .i64 0] 38)).alloc (.cells #[.int .i64 0, .int .i64 0] 38)).alloc (.cells #[.slice A n cap, .int .i64 0, .int .u64 0] 90)) := (((Only.refl _ _ w).alloc _).alloc _).alloc _
  go_enter Tryd.func28, Tryd.ntmps28
  go_wp2_with fail
  refine (floor_any _ _ _ C0 (by omega)).mono ?_
  rintro e w1 ⟨u, rfl, n', hs1, hn', C1, hO1⟩
  obtain ⟨F, hF1, hFs⟩ := hs1.sl
  have hff : ffits F n' := ⟨by omega, fun i hi => by have := hFs i hi; unfold maxLen; omega⟩
  clear hs1
  have hz1 := hO1.size
  (try simp at hz1)
  have R1 := R0.only hO1 (by omega)
  have Q1 := Q0.only hO1 (by omega)
  have O1 := O0.trans hO1
  clear R0 Q0 O0 C0
  have HF1 : Hid (Sl w1 (w.heap.size + 1 + 1 + 1) w1.heap.size 1 u n' (sC F)) := hF1.mono (by simp; try omega) (Nat.le_refl _)
  clear hF1
  obtain ⟨Au, cu, rfl, _, _⟩ := id HF1.out.open_
  go_wp2_with fail
  refine (cellOf_any F n' (w.heap.size + 1 + 1 + 1) _ _ _ _ _ C1 (by omega) HF1.out (by omega) (Nat.le_refl _) hff).mono ?_
  rintro e w2 ⟨x, y, rfl, C2, hO2⟩
  have HF2 : Hid (Sl w2 (w.heap.size + 1 + 1 + 1) w2.heap.size 1 (.slice Au n' cu) n' (sC F)) := (HF1.out.onlyF hO2 (by omega) (Nat.le_refl _)).mono (Nat.le_refl _) hO2.size
  clear HF1
  have hz2 := hO2.size
  (try simp at hz2)
  have R2 := R1.only hO2 (by omega)
  have Q2 := Q1.only hO2 (by omega)
  have O2 := O1.trans hO2
  clear R1 Q1 O1 C1
  go_wp2_with fail
  refine (cellOf_any F n' (w.heap.size + 1 + 1 + 1) _ _ _ _ _ C2 (by omega) HF2.out (by omega) (Nat.le_refl _) hff).mono ?_
  rintro e w3 ⟨p, q, rfl, C3, hO3⟩
  have HF3 : Hid (Sl w3 (w.heap.size + 1 + 1 + 1) w3.heap.size 1 (.slice Au n' cu) n' (sC F)) := (HF2.out.onlyF hO3 (by omega) (Nat.le_refl _)).mono (Nat.le_refl _) hO3.size
  clear HF2
  have hz3 := hO3.size
  (try simp at hz3)
  have R3 := R2.only hO3 (by omega)
  have Q3 := Q2.only hO3 (by omega)
  have O3 := O2.trans hO3
  clear R2 Q2 O2 C2
  obtain ⟨r0, r1, rf, rl⟩ := R3
  obtain ⟨s0, s1, sf, sl⟩ := Q3
  have hb : Below w.heap.size w w3 := O3.below (by omega) (Nat.le_refl _)
  clear O3 C3
  go_wp2_with fail
  exact bodyPost_ret (v := .tuple #[.slice Au n' cu, .agg #[.int .i64 x, .int .i64 y], .agg #[.int .i64 p, .int .i64 q]]) (by simp [results, Tryd.results28, go_sem, *]) rfl ⟨_, _, F, _, _, _, _, rfl, ((sl_set (sl_set (sl_set (sl_set HF3.out (by simp; try omega) _) (by simp; try omega) _) (by simp; try omega) _) (by simp; try omega) _)).mono (by omega) (by simp [World.setCell]; try omega), hff, (by repeat (first | (with_reducible exact Below.refl _ _) | (with_reducible refine below_ov ?_ ?_) | (with_reducible refine Below.setCell ?_ ?_ _) | (with_reducible refine Below.alloc ?_ ?_ _) | (with_reducible refine Below.drew ?_) | (with_reducible refine below_drewN ?_ _) | (refine Below.trans ?_ (Below.mono ‹Below _ _ _› (by first | omega | (simp; done) | (simp; omega)))) | exact Below.refl _ _ | omega | (focus (simp; done)) | (focus (simp; omega))))⟩

set_option maxRecDepth 100000 in
set_option maxHeartbeats 3200000 in
theorem DrawHandWay_any (v : Value) (w : World) (h : Code w v) :
    Calls Tryd.prog 46 #[v] w fun e w' => ∃ (u : Value) (n : Nat) (F : Nat → ByteArray) (x y : Int) (b : Bool), e = .returned (.tuple #[u, .agg #[.int .i64 x, .int .i64 y], .bool b]) ∧ Sl w' w.heap.size w'.heap.size 1 u n (sC F) ∧ ffits F n ∧ Below w.heap.size w w' := by
  obtain ⟨A, n, cap, rfl⟩ := h.form
  have C0 : Cu ((w.alloc (.cells #[.int .i64 0, .int .i64 0] 38)).alloc (.cells #[.slice A n cap, .int .i64 0, .int .u64 0] 90)) (w.heap.size + 1) 0 := by
    have := Cu.start (h.below ((Below.refl _ _).alloc (Nat.le_refl _) (.cells #[.int .i64 0, .int .i64 0] 38)) (Nat.le_refl _)) 90
    simpa using this
  have R0 : BxI ((w.alloc (.cells #[.int .i64 0, .int .i64 0] 38)).alloc (.cells #[.slice A n cap, .int .i64 0, .int .u64 0] 90)) w.heap.size 0 0 := (BxI.new w 0 0 _).alloc _
  have O0 : Only (w.heap.size + 1) (w.heap.size + 1 + 1) w ((w.alloc (.cells #[.int .i64 0, .int .i64 0] 38)).alloc (.cells #[.slice A n cap, .int .i64 0, .int .u64 0] 90)) := ((Only.refl _ _ w).alloc _).alloc _
  go_enter Tryd.func46, Tryd.ntmps46
  go_wp2_with fail
  refine (floor_any _ _ _ C0 (by omega)).mono ?_
  rintro e w1 ⟨u, rfl, n', hs1, hn', C1, hO1⟩
  obtain ⟨F, hF1, hFs⟩ := hs1.sl
  have hff : ffits F n' := ⟨by omega, fun i hi => by have := hFs i hi; unfold maxLen; omega⟩
  clear hs1
  have hz1 := hO1.size
  (try simp at hz1)
  have R1 := R0.only hO1 (by omega)
  have O1 := O0.trans hO1
  clear R0 O0 C0
  have HF1 : Hid (Sl w1 (w.heap.size + 1 + 1) w1.heap.size 1 u n' (sC F)) := hF1.mono (by simp; try omega) (Nat.le_refl _)
  clear hF1
  obtain ⟨Au, cu, rfl, _, _⟩ := id HF1.out.open_
  go_wp2_with fail
  refine (cellOf_any F n' (w.heap.size + 1 + 1) _ _ _ _ _ C1 (by omega) HF1.out (by omega) (Nat.le_refl _) hff).mono ?_
  rintro e w2 ⟨x, y, rfl, C2, hO2⟩
  have HF2 : Hid (Sl w2 (w.heap.size + 1 + 1) w2.heap.size 1 (.slice Au n' cu) n' (sC F)) := (HF1.out.onlyF hO2 (by omega) (Nat.le_refl _)).mono (Nat.le_refl _) hO2.size
  clear HF1
  have hz2 := hO2.size
  (try simp at hz2)
  have R2 := R1.only hO2 (by omega)
  have O2 := O1.trans hO2
  clear R1 O1 C1
  go_wp2_with fail
  refine (one_any _ _ _ _ C2 (by omega)).mono ?_
  rintro e w3 ⟨b3, rfl, C3, hO3⟩
  have HF3 : Hid (Sl w3 (w.heap.size + 1 + 1) w3.heap.size 1 (.slice Au n' cu) n' (sC F)) := (HF2.out.onlyF hO3 (by omega) (Nat.le_refl _)).mono (Nat.le_refl _) hO3.size
  clear HF2
  have hz3 := hO3.size
  (try simp at hz3)
  have R3 := R2.only hO3 (by omega)
  have O3 := O2.trans hO3
  clear R2 O2 C2
  obtain ⟨r0, r1, rf, rl⟩ := R3
  have hb : Below w.heap.size w w3 := O3.below (by omega) (Nat.le_refl _)
  clear O3 C3
  go_wp2_with fail
  exact bodyPost_ret (v := .tuple #[.slice Au n' cu, .agg #[.int .i64 x, .int .i64 y], .bool b3]) (by simp [results, Tryd.results46, go_sem, *]) rfl ⟨_, _, F, _, _, _, rfl, ((sl_set (sl_set HF3.out (by simp; try omega) _) (by simp; try omega) _)).mono (by omega) (by simp [World.setCell]; try omega), hff, (by repeat (first | (with_reducible exact Below.refl _ _) | (with_reducible refine below_ov ?_ ?_) | (with_reducible refine Below.setCell ?_ ?_ _) | (with_reducible refine Below.alloc ?_ ?_ _) | (with_reducible refine Below.drew ?_) | (with_reducible refine below_drewN ?_ _) | (refine Below.trans ?_ (Below.mono ‹Below _ _ _› (by first | omega | (simp; done) | (simp; omega)))) | exact Below.refl _ _ | omega | (focus (simp; done)) | (focus (simp; omega))))⟩

end Go.Proofs.YtpckhpkbdanjoaaDoor

/-
  Plain words: the way back: from a cell to the nearest neighbours of the other one, east before north before south before west. No program in sight.-/
namespace Go.Proofs.YtpckhpkbdanjoaaDoor
set_option linter.unusedVariables false
set_option linter.unusedSimpArgs false

/-- The order in which directions are tried. -/
def ordD (j : Nat) : Nat := if j = 0 then 1 else if j = 1 then 0 else j
theorem ordD_lt {j : Nat} (h : j < 4) : ordD j < 4 := by unfold ordD; split <;> (try split) <;> omega
theorem ordD_ordD (j : Nat) : ordD (ordD j) = j := by unfold ordD; split <;> (try split) <;> (try split) <;> omega
/-- The number of steps left from p. -/
def lfF (F : Nat → ByteArray) (n : Nat) (b p : Int × Int) : Int := stF F n b (ixF F p)
/-- The j-th direction leads one step nearer. -/
def wbT (F : Nat → ByteArray) (n : Nat) (b p : Int × Int) (j : Nat) : Bool := opP F n (stp p (ordD j)) && decide (lfF F n b (stp p (ordD j)) = lfF F n b p - 1)
def wbJ (F : Nat → ByteArray) (n : Nat) (b p : Int × Int) : Nat := if wbT F n b p 0 = true then 0 else if wbT F n b p 1 = true then 1 else if wbT F n b p 2 = true then 2 else 3
def ltrB (d : Nat) : ByteArray := if d = 0 then ⟨#[110]⟩ else if d = 1 then ⟨#[101]⟩ else if d = 2 then ⟨#[115]⟩ else ⟨#[119]⟩
theorem ltrB_size (d : Nat) : (ltrB d).size = 1 := by unfold ltrB; split <;> (try split) <;> (try split) <;> rfl
/-- What is behind s when the way goes on from p, so many steps. -/
def wbG (F : Nat → ByteArray) (n : Nat) (b : Int × Int) : Nat → Int × Int → ByteArray → ByteArray
  | 0, _, s => s
  | k + 1, p, s => wbG F n b k (stp p (ordD (wbJ F n b p))) (s ++ ltrB (ordD (wbJ F n b p)))
section
variable {F : Nat → ByteArray} {n : Nat} {b p : Int × Int} {j k : Nat}
theorem wbJ_at (h : wbT F n b p j = true) (hj : j < 4) (hlt : ∀ i, i < j → wbT F n b p i = false) : wbJ F n b p = j := by
  have h4 : j = 0 ∨ j = 1 ∨ j = 2 ∨ j = 3 := by omega
  rcases h4 with rfl | rfl | rfl | rfl
  · simp [wbJ, h]
  · simp [wbJ, h, hlt 0 (by omega)]
  · simp [wbJ, h, hlt 0 (by omega), hlt 1 (by omega)]
  · simp [wbJ, hlt 0 (by omega), hlt 1 (by omega), hlt 2 (by omega)]
theorem wb_some (hb : opP F n b = true) (hp : opP F n p = true) (h : lfF F n b p = (k + 1 : Nat)) (hlt : ∀ i, i < 4 → wbT F n b p i = false) : False := by
  have h' : stF F n b (ixF F p) = (k + 1 : Nat) := h
  rcases stF_near hb hp (by rw [h']; omega) with rfl | ⟨_, d, hd, ho, hs⟩
  · rw [stF_zero hb] at h'
    omega
  · have h1 := hlt (ordD d) (ordD_lt hd)
    rw [wbT, ordD_ordD, ho] at h1
    have h2 : lfF F n b (stp p d) = lfF F n b p - 1 := by show stF F n b _ = stF F n b _ - 1; omega
    rw [decide_eq_true h2] at h1
    exact absurd h1 (by decide)
theorem wb_same (hb : opP F n b = true) (hp : opP F n p = true) (h : 0 ≤ lfF F n b p) : p = b ↔ lfF F n b p = 0 := by
  constructor
  · rintro rfl
    exact stF_zero hb
  · intro h0
    rcases stF_near hb hp h with e | ⟨h1, _⟩
    · exact e
    · have : stF F n b (ixF F p) = 0 := h0
      omega
theorem wbG_step {s : ByteArray} (h : wbT F n b p j = true) (hj : j < 4) (hlt : ∀ i, i < j → wbT F n b p i = false) : wbG F n b (k + 1) p s = wbG F n b k (stp p (ordD j)) (s ++ ltrB (ordD j)) := by
  rw [wbG, wbJ_at h hj hlt]
theorem wb_parts (h : wbT F n b p j = true) : opP F n (stp p (ordD j)) = true ∧ lfF F n b (stp p (ordD j)) = lfF F n b p - 1 := by
  simp only [wbT, Bool.and_eq_true, decide_eq_true_eq] at h
  exact h
theorem lf_bd (hb : opP F n b = true) (p : Int × Int) : -1 ≤ lfF F n b p ∧ lfF F n b p < (n * (F 0).size : Nat) := stF_bd hb _
end

end Go.Proofs.YtpckhpkbdanjoaaDoor

/-
  Walks: StepsFrom: the program's and the reference's.-/
namespace Go.Proofs.YtpckhpkbdanjoaaDoor
set_option linter.unusedVariables false
set_option linter.unusedSimpArgs false
open Go.RowKit

def sfOk (F : Nat → ByteArray) (n : Nat) (r c : Int) : Bool := flB F n && opB F n r c
def sfN (F : Nat → ByteArray) (n : Nat) (r c : Int) : Nat := if sfOk F n r c = true then n * (F 0).size else 0
def sfO (F : Nat → ByteArray) (n : Nat) (r c : Int) : Nat → Int := stF F n (r, c)
theorem fl_area {F : Nat → ByteArray} {n : Nat} (h : flB F n = true) : 1 ≤ n * (F 0).size ∧ n * (F 0).size ≤ 144 := by
  obtain ⟨g1, g2, g3, g4, _⟩ := flB_facts h
  have h5 : n * (F 0).size ≤ 12 * 12 := Nat.mul_le_mul g2 g4
  have h6 : 1 * 1 ≤ n * (F 0).size := Nat.mul_le_mul g1 g3
  omega
theorem sfN_le {F : Nat → ByteArray} {n : Nat} {r c : Int} : sfN F n r c ≤ 1048576 := by
  unfold sfN
  split
  · rename_i h
    simp only [sfOk, Bool.and_eq_true] at h
    have := fl_area h.1
    omega
  · omega
/-- What the call hands back. -/
def SfRes (F : Nat → ByteArray) (n : Nat) (r c : Int) (w : World) (e : Ending) (w' : World) : Prop := ∃ v', e = .returned (.tuple #[v', .bool (sfOk F n r c)]) ∧ Own w' w.heap.size w'.heap.size 3 1 v' (sfN F n r c) (sfN F n r c) (iC (sfO F n r c)) ∧ Below w.heap.size w w'
theorem sf_nil {F : Nat → ByteArray} {n : Nat} {r c : Int} {w w' : World} (h : sfOk F n r c = false) (hb : Below w.heap.size w w') : SfRes F n r c w (.returned (.tuple #[.slice none 0 0, .bool (sfOk F n r c)])) w' :=
  ⟨_, rfl, by rw [sfN, h]; exact Own.nil_ _ _ _ _ _ _, hb⟩
/-- The row of numbers, as the laws want it. -/
theorem st_row {w' : World} {g N co lo : Nat} {o : Nat → Int} (h : OwnL w' g (g + 1) 3 1 (.slice (some ⟨g, 0, none⟩) N co) N N (fun i => .int .i64 (o i))) (hN : 0 < N) (hl : lo ≤ g) : Own w' lo w'.heap.size 3 1 (.slice (some ⟨g, 0, none⟩) N co) N N (iC o) := by
  have h1 : OwnL w' g (g + 1) 3 1 (.slice (some ⟨g, 0, none⟩) N co) N (N * 1) (fun i => iC o (i / 1) (i % 1)) := by
    rw [Nat.mul_one]
    exact h.congr fun i _ => by simp [iC]
  exact (own_row (h1.rowL hN (by omega))).mono hl (Nat.le_refl _)
theorem sf_row {F : Nat → ByteArray} {n : Nat} {r c : Int} {w w' : World} {g co : Nat} (h : sfOk F n r c = true) (ho : OwnL w' g (g + 1) 3 1 (.slice (some ⟨g, 0, none⟩) (n * (F 0).size) co) (n * (F 0).size) (n * (F 0).size) (fun i => .int .i64 (stF F n (r, c) i))) (hl : w.heap.size ≤ g) (hb : Below w.heap.size w w') :
    SfRes F n r c w (.returned (.tuple #[.slice (some ⟨g, 0, none⟩) (n * (F 0).size) co, .bool (sfOk F n r c)])) w' := by
  have hN : sfN F n r c = n * (F 0).size := by rw [sfN, if_pos h]
  refine ⟨_, rfl, ?_, hb⟩
  rw [hN]
  have hf : flB F n = true := by simp only [sfOk, Bool.and_eq_true] at h; exact h.1
  have := fl_area hf
  exact st_row ho (by omega) hl
set_option maxRecDepth 100000 in
set_option maxHeartbeats 1600000 in
theorem seAsked_any (F : Nat → ByteArray) (n : Nat) (r c : Int) (lo hi : Nat) (v : Value) (w : World) (hv : Sl w lo hi 1 v n (sC F)) (hhi : hi ≤ w.heap.size) (hf : ffits F n) :
    Calls Tryd.prog 63 #[v, .agg #[.int .i64 r, .int .i64 c]] w fun e w' => e = .returned (.bool (sfOk F n r c)) ∧ Below w.heap.size w w' := by
  obtain ⟨A, cap, rfl, hcap, hA⟩ := hv.open_
  cases e1 : flB F n with
  | false =>
    have HX : Hid (sfOk F n r c = false) := by show _ = _; rw [sfOk, e1]; rfl
    go_enter Tryd.func63, Tryd.ntmps63
    go_wp2_with fail
    refine (seGood_any F n lo hi _ _ (hv.below (B := w.heap.size) (by repeat (first | (with_reducible exact Below.refl _ _) | (with_reducible refine below_ov ?_ ?_) | (with_reducible refine Below.setCell ?_ ?_ _) | (with_reducible refine Below.alloc ?_ ?_ _) | (with_reducible refine Below.drew ?_) | (with_reducible refine below_drewN ?_ _) | (refine Below.trans ?_ (Below.mono ‹Below _ _ _› (by first | omega | (simp; done) | (simp; omega)))) | exact Below.refl _ _ | omega | (focus (simp; done)) | (focus (simp; omega)))) hhi) (by first | omega | (simp; done) | (simp; omega)) hf).mono ?_
    rintro e w1 ⟨rfl, hb1⟩
    have hz1 := hb1.size
    rw [e1]
    go_wp2_with fail
    go_ret
    rw [HX.out]
    exact ⟨rfl, (by repeat (first | (with_reducible exact Below.refl _ _) | (with_reducible refine below_ov ?_ ?_) | (with_reducible refine Below.setCell ?_ ?_ _) | (with_reducible refine Below.alloc ?_ ?_ _) | (with_reducible refine Below.drew ?_) | (with_reducible refine below_drewN ?_ _) | (refine Below.trans ?_ (Below.mono ‹Below _ _ _› (by first | omega | (simp; done) | (simp; omega)))) | exact Below.refl _ _ | omega | (focus (simp; done)) | (focus (simp; omega))))⟩
  | true =>
    have HX : Hid (sfOk F n r c = opB F n r c) := by show _ = _; rw [sfOk, e1]; rfl
    have HG := hide e1
    go_enter Tryd.func63, Tryd.ntmps63
    go_wp2_with fail
    refine (seGood_any F n lo hi _ _ (hv.below (B := w.heap.size) (by repeat (first | (with_reducible exact Below.refl _ _) | (with_reducible refine below_ov ?_ ?_) | (with_reducible refine Below.setCell ?_ ?_ _) | (with_reducible refine Below.alloc ?_ ?_ _) | (with_reducible refine Below.drew ?_) | (with_reducible refine below_drewN ?_ _) | (refine Below.trans ?_ (Below.mono ‹Below _ _ _› (by first | omega | (simp; done) | (simp; omega)))) | exact Below.refl _ _ | omega | (focus (simp; done)) | (focus (simp; omega)))) hhi) (by first | omega | (simp; done) | (simp; omega)) hf).mono ?_
    rintro e w1 ⟨rfl, hb1⟩
    have hz1 := hb1.size
    (try (simp at hz1))
    rw [e1]
    clear e1
    have px0 := (hb1.cell (p := ⟨w.heap.size, 0, none⟩) (by simp)).trans (World.cell?_alloc_new _ _ _ _)
    have px1 := (hb1.cell (p := ⟨w.heap.size, 1, none⟩) (by simp)).trans (World.cell?_alloc_new _ _ _ _)
    simp at px0 px1
    have lp : w.heap.size < w1.heap.size := by omega
    go_wp2_with fail
    refine (seOpen_any F n r c lo hi _ _ (hv.below (B := w.heap.size) (by repeat (first | (with_reducible exact Below.refl _ _) | (with_reducible refine below_ov ?_ ?_) | (with_reducible refine Below.setCell ?_ ?_ _) | (with_reducible refine Below.alloc ?_ ?_ _) | (with_reducible refine Below.drew ?_) | (with_reducible refine below_drewN ?_ _) | (refine Below.trans ?_ (Below.mono ‹Below _ _ _› (by first | omega | (simp; done) | (simp; omega)))) | exact Below.refl _ _ | omega | (focus (simp; done)) | (focus (simp; omega)))) hhi) (by first | omega | (simp; done) | (simp; omega)) HG.out).mono ?_
    rintro e w2 ⟨rfl, hb2⟩
    have hz2 := hb2.size
    go_wp2_with fail
    go_ret
    rw [HX.out]
    exact ⟨rfl, (by repeat (first | (with_reducible exact Below.refl _ _) | (with_reducible refine below_ov ?_ ?_) | (with_reducible refine Below.setCell ?_ ?_ _) | (with_reducible refine Below.alloc ?_ ?_ _) | (with_reducible refine Below.drew ?_) | (with_reducible refine below_drewN ?_ _) | (refine Below.trans ?_ (Below.mono ‹Below _ _ _› (by first | omega | (simp; done) | (simp; omega)))) | exact Below.refl _ _ | omega | (focus (simp; done)) | (focus (simp; omega))))⟩
set_option maxRecDepth 100000 in
set_option maxHeartbeats 1600000 in
theorem StepsFrom_impl (F : Nat → ByteArray) (n : Nat) (r c : Int) (lo hi : Nat) (v : Value) (w : World) (hv : Sl w lo hi 1 v n (sC F)) (hhi : hi ≤ w.heap.size) (hf : ffits F n) :
    Calls Tryd.prog 31 #[v, .agg #[.int .i64 r, .int .i64 c]] w (SfRes F n r c w) := by
  obtain ⟨A, cap, rfl, hcap, hA⟩ := hv.open_
  cases e1 : flB F n with
  | false =>
    have HX : Hid (sfOk F n r c = false) := by show _ = _; rw [sfOk, e1]; rfl
    go_enter Tryd.func31, Tryd.ntmps31
    go_wp2_with fail
    refine (isFloor_any F n lo hi _ _ (hv.below (B := w.heap.size) (by repeat (first | (with_reducible exact Below.refl _ _) | (with_reducible refine below_ov ?_ ?_) | (with_reducible refine Below.setCell ?_ ?_ _) | (with_reducible refine Below.alloc ?_ ?_ _) | (with_reducible refine Below.drew ?_) | (with_reducible refine below_drewN ?_ _) | (refine Below.trans ?_ (Below.mono ‹Below _ _ _› (by first | omega | (simp; done) | (simp; omega)))) | exact Below.refl _ _ | omega | (focus (simp; done)) | (focus (simp; omega)))) hhi) (by first | omega | (simp; done) | (simp; omega)) hf).mono ?_
    rintro e w1 ⟨rfl, hb1⟩
    have hz1 := hb1.size
    rw [e1]
    go_wp2_with fail
    go_ret2
    have h := sf_nil HX.out (w' := w1) (w := w) (by repeat (first | (with_reducible exact Below.refl _ _) | (with_reducible refine below_ov ?_ ?_) | (with_reducible refine Below.setCell ?_ ?_ _) | (with_reducible refine Below.alloc ?_ ?_ _) | (with_reducible refine Below.drew ?_) | (with_reducible refine below_drewN ?_ _) | (refine Below.trans ?_ (Below.mono ‹Below _ _ _› (by first | omega | (simp; done) | (simp; omega)))) | exact Below.refl _ _ | omega | (focus (simp; done)) | (focus (simp; omega))))
    rw [HX.out] at h
    exact h
  | true =>
    have HG := hide e1
    go_enter Tryd.func31, Tryd.ntmps31
    go_wp2_with fail
    refine (isFloor_any F n lo hi _ _ (hv.below (B := w.heap.size) (by repeat (first | (with_reducible exact Below.refl _ _) | (with_reducible refine below_ov ?_ ?_) | (with_reducible refine Below.setCell ?_ ?_ _) | (with_reducible refine Below.alloc ?_ ?_ _) | (with_reducible refine Below.drew ?_) | (with_reducible refine below_drewN ?_ _) | (refine Below.trans ?_ (Below.mono ‹Below _ _ _› (by first | omega | (simp; done) | (simp; omega)))) | exact Below.refl _ _ | omega | (focus (simp; done)) | (focus (simp; omega)))) hhi) (by first | omega | (simp; done) | (simp; omega)) hf).mono ?_
    rintro e w1 ⟨rfl, hb1⟩
    have hz1 := hb1.size
    (try (simp at hz1))
    rw [e1]
    clear e1
    have HPX : Hid (∀ W, Below w1.heap.size w1 W → W.cell? ⟨w.heap.size, 0, none⟩ = some (.int .i64 r) ∧ W.cell? ⟨w.heap.size, 1, none⟩ = some (.int .i64 c)) := fun W hW =>
      ⟨(hW.cell (p := ⟨w.heap.size, 0, none⟩) (by show w.heap.size < _; omega)).trans ((hb1.cell (p := ⟨w.heap.size, 0, none⟩) (by simp)).trans (World.cell?_alloc_new _ _ _ _)), (hW.cell (p := ⟨w.heap.size, 1, none⟩) (by show w.heap.size < _; omega)).trans ((hb1.cell (p := ⟨w.heap.size, 1, none⟩) (by simp)).trans (World.cell?_alloc_new _ _ _ _))⟩
    have lp : w.heap.size < w1.heap.size := by omega
    obtain ⟨px0, px1⟩ := HPX.out _ (Below.refl _ _)
    cases e2 : opB F n r c with
    | false =>
      have HX : Hid (sfOk F n r c = false) := by show _ = _; rw [sfOk, HG.out, e2]; rfl
      go_wp2_with fail
      refine (isOpen_any F n r c lo hi _ _ (hv.below (B := w.heap.size) (by repeat (first | (with_reducible exact Below.refl _ _) | (with_reducible refine below_ov ?_ ?_) | (with_reducible refine Below.setCell ?_ ?_ _) | (with_reducible refine Below.alloc ?_ ?_ _) | (with_reducible refine Below.drew ?_) | (with_reducible refine below_drewN ?_ _) | (refine Below.trans ?_ (Below.mono ‹Below _ _ _› (by first | omega | (simp; done) | (simp; omega)))) | exact Below.refl _ _ | omega | (focus (simp; done)) | (focus (simp; omega)))) hhi) (by first | omega | (simp; done) | (simp; omega)) HG.out).mono ?_
      rintro e w2 ⟨rfl, hb2⟩
      have hz2 := hb2.size
      rw [e2]
      go_wp2_with fail
      go_ret2
      have h := sf_nil HX.out (w' := w2) (w := w) (by repeat (first | (with_reducible exact Below.refl _ _) | (with_reducible refine below_ov ?_ ?_) | (with_reducible refine Below.setCell ?_ ?_ _) | (with_reducible refine Below.alloc ?_ ?_ _) | (with_reducible refine Below.drew ?_) | (with_reducible refine below_drewN ?_ _) | (refine Below.trans ?_ (Below.mono ‹Below _ _ _› (by first | omega | (simp; done) | (simp; omega)))) | exact Below.refl _ _ | omega | (focus (simp; done)) | (focus (simp; omega))))
      rw [HX.out] at h
      exact h
    | true =>
      have HX : Hid (sfOk F n r c = true) := by show _ = _; rw [sfOk, HG.out, e2]; rfl
      have HO := hide e2
      go_wp2_with fail
      refine (isOpen_any F n r c lo hi _ _ (hv.below (B := w.heap.size) (by repeat (first | (with_reducible exact Below.refl _ _) | (with_reducible refine below_ov ?_ ?_) | (with_reducible refine Below.setCell ?_ ?_ _) | (with_reducible refine Below.alloc ?_ ?_ _) | (with_reducible refine Below.drew ?_) | (with_reducible refine below_drewN ?_ _) | (refine Below.trans ?_ (Below.mono ‹Below _ _ _› (by first | omega | (simp; done) | (simp; omega)))) | exact Below.refl _ _ | omega | (focus (simp; done)) | (focus (simp; omega)))) hhi) (by first | omega | (simp; done) | (simp; omega)) HG.out).mono ?_
      rintro e w2 ⟨rfl, hb2⟩
      have hz2 := hb2.size
      rw [e2]
      clear e2 px0 px1
      obtain ⟨px0, px1⟩ := HPX.out _ hb2
      have lp2 : w.heap.size < w2.heap.size := by omega
      go_wp2_with fail
      refine (stepsFrom_any F n r c lo hi _ _ (hv.below (B := w.heap.size) (by repeat (first | (with_reducible exact Below.refl _ _) | (with_reducible refine below_ov ?_ ?_) | (with_reducible refine Below.setCell ?_ ?_ _) | (with_reducible refine Below.alloc ?_ ?_ _) | (with_reducible refine Below.drew ?_) | (with_reducible refine below_drewN ?_ _) | (refine Below.trans ?_ (Below.mono ‹Below _ _ _› (by first | omega | (simp; done) | (simp; omega)))) | exact Below.refl _ _ | omega | (focus (simp; done)) | (focus (simp; omega)))) hhi) (by first | omega | (simp; done) | (simp; omega)) HG.out HO.out).mono ?_
      rintro e w3 ⟨g, rfl, ho, hg1, hg2, hb3⟩
      have hz3 := hb3.size
      have hbw : Below w.heap.size w w3 := (by repeat (first | (with_reducible exact Below.refl _ _) | (with_reducible refine below_ov ?_ ?_) | (with_reducible refine Below.setCell ?_ ?_ _) | (with_reducible refine Below.alloc ?_ ?_ _) | (with_reducible refine Below.drew ?_) | (with_reducible refine below_drewN ?_ _) | (refine Below.trans ?_ (Below.mono ‹Below _ _ _› (by first | omega | (simp; done) | (simp; omega)))) | exact Below.refl _ _ | omega | (focus (simp; done)) | (focus (simp; omega))))
      go_wp2_with fail
      go_ret2
      have h := sf_row HX.out ho (w := w) (by omega) hbw
      rw [HX.out] at h
      exact h
set_option maxRecDepth 100000 in
set_option maxHeartbeats 1600000 in
theorem StepsFrom_spec (F : Nat → ByteArray) (n : Nat) (r c : Int) (lo hi : Nat) (v : Value) (w : World) (hv : Sl w lo hi 1 v n (sC F)) (hhi : hi ≤ w.heap.size) (hf : ffits F n) :
    Calls Tryd.prog 32 #[v, .agg #[.int .i64 r, .int .i64 c]] w (SfRes F n r c w) := by
  obtain ⟨A, cap, rfl, hcap, hA⟩ := hv.open_
  cases e1 : sfOk F n r c with
  | false =>
    have HX := hide e1
    go_enter Tryd.func32, Tryd.ntmps32
    go_wp2_with fail
    refine (seAsked_any F n r c lo hi _ _ (hv.below (B := w.heap.size) (by repeat (first | (with_reducible exact Below.refl _ _) | (with_reducible refine below_ov ?_ ?_) | (with_reducible refine Below.setCell ?_ ?_ _) | (with_reducible refine Below.alloc ?_ ?_ _) | (with_reducible refine Below.drew ?_) | (with_reducible refine below_drewN ?_ _) | (refine Below.trans ?_ (Below.mono ‹Below _ _ _› (by first | omega | (simp; done) | (simp; omega)))) | exact Below.refl _ _ | omega | (focus (simp; done)) | (focus (simp; omega)))) hhi) (by first | omega | (simp; done) | (simp; omega)) hf).mono ?_
    rintro e w1 ⟨rfl, hb1⟩
    have hz1 := hb1.size
    rw [e1]
    go_wp2_with fail
    go_ret2
    have h := sf_nil HX.out (w' := w1) (w := w) (by repeat (first | (with_reducible exact Below.refl _ _) | (with_reducible refine below_ov ?_ ?_) | (with_reducible refine Below.setCell ?_ ?_ _) | (with_reducible refine Below.alloc ?_ ?_ _) | (with_reducible refine Below.drew ?_) | (with_reducible refine below_drewN ?_ _) | (refine Below.trans ?_ (Below.mono ‹Below _ _ _› (by first | omega | (simp; done) | (simp; omega)))) | exact Below.refl _ _ | omega | (focus (simp; done)) | (focus (simp; omega))))
    rw [HX.out] at h
    exact h
  | true =>
    have HX := hide e1
    have HGO : Hid (flB F n = true ∧ opB F n r c = true) := by
      show _ ∧ _
      simpa only [sfOk, Bool.and_eq_true] using e1
    go_enter Tryd.func32, Tryd.ntmps32
    go_wp2_with fail
    refine (seAsked_any F n r c lo hi _ _ (hv.below (B := w.heap.size) (by repeat (first | (with_reducible exact Below.refl _ _) | (with_reducible refine below_ov ?_ ?_) | (with_reducible refine Below.setCell ?_ ?_ _) | (with_reducible refine Below.alloc ?_ ?_ _) | (with_reducible refine Below.drew ?_) | (with_reducible refine below_drewN ?_ _) | (refine Below.trans ?_ (Below.mono ‹Below _ _ _› (by first | omega | (simp; done) | (simp; omega)))) | exact Below.refl _ _ | omega | (focus (simp; done)) | (focus (simp; omega)))) hhi) (by first | omega | (simp; done) | (simp; omega)) hf).mono ?_
    rintro e w1 ⟨rfl, hb1⟩
    have hz1 := hb1.size
    (try (simp at hz1))
    rw [e1]
    clear e1
    have px0 := (hb1.cell (p := ⟨w.heap.size, 0, none⟩) (by simp)).trans (World.cell?_alloc_new _ _ _ _)
    have px1 := (hb1.cell (p := ⟨w.heap.size, 1, none⟩) (by simp)).trans (World.cell?_alloc_new _ _ _ _)
    simp at px0 px1
    have lp : w.heap.size < w1.heap.size := by omega
    go_wp2_with fail
    refine (seSteps_any F n r c lo hi _ _ (hv.below (B := w.heap.size) (by repeat (first | (with_reducible exact Below.refl _ _) | (with_reducible refine below_ov ?_ ?_) | (with_reducible refine Below.setCell ?_ ?_ _) | (with_reducible refine Below.alloc ?_ ?_ _) | (with_reducible refine Below.drew ?_) | (with_reducible refine below_drewN ?_ _) | (refine Below.trans ?_ (Below.mono ‹Below _ _ _› (by first | omega | (simp; done) | (simp; omega)))) | exact Below.refl _ _ | omega | (focus (simp; done)) | (focus (simp; omega)))) hhi) (by first | omega | (simp; done) | (simp; omega)) HGO.out.1 HGO.out.2).mono ?_
    rintro e w3 ⟨g, co, rfl, ho, hg1, hg2, hb3⟩
    have hz3 := hb3.size
    have hbw : Below w.heap.size w w3 := (by repeat (first | (with_reducible exact Below.refl _ _) | (with_reducible refine below_ov ?_ ?_) | (with_reducible refine Below.setCell ?_ ?_ _) | (with_reducible refine Below.alloc ?_ ?_ _) | (with_reducible refine Below.drew ?_) | (with_reducible refine below_drewN ?_ _) | (refine Below.trans ?_ (Below.mono ‹Below _ _ _› (by first | omega | (simp; done) | (simp; omega)))) | exact Below.refl _ _ | omega | (focus (simp; done)) | (focus (simp; omega))))
    go_wp2_with fail
    go_ret2
    have h := sf_row HX.out ho (w := w) (by omega) hbw
    rw [HX.out] at h
    exact h

end Go.Proofs.YtpckhpkbdanjoaaDoor

/-
  Walks: a way is followed: the program's and the reference's.-/
namespace Go.Proofs
open Go.RowKit Go.Shelf
shelf_lay Lays.n144 Nm 144 at Tryd as YtpckhpkbdanjoaaDoor.laysContains
end Go.Proofs
namespace Go.Proofs.YtpckhpkbdanjoaaDoor
set_option linter.unusedVariables false
set_option linter.unusedSimpArgs false
open Go.RowKit Go.Shelf

/-- The direction of a letter, or -1. -/
def ltr (b : Int) : Int := if b = 110 then 0 else if b = 101 then 1 else if b = 115 then 2 else if b = 119 then 3 else -1
theorem ltr_dL {d : Nat} (hd : d < 4) : ltr (dL d) = d := by
  have h4 : d = 0 ∨ d = 1 ∨ d = 2 ∨ d = 3 := by omega
  rcases h4 with rfl | rfl | rfl | rfl <;> rfl
theorem ltr_cases (b : Int) : ltr b = -1 ∧ b ≠ 110 ∧ b ≠ 101 ∧ b ≠ 115 ∧ b ≠ 119 ∨ ∃ d, d < 4 ∧ b = dL d ∧ ltr b = d := by
  by_cases h0 : b = 110
  · exact .inr ⟨0, by omega, h0, by rw [h0]; rfl⟩
  by_cases h1 : b = 101
  · exact .inr ⟨1, by omega, h1, by rw [h1]; rfl⟩
  by_cases h2 : b = 115
  · exact .inr ⟨2, by omega, h2, by rw [h2]; rfl⟩
  by_cases h3 : b = 119
  · exact .inr ⟨3, by omega, h3, by rw [h3]; rfl⟩
  exact .inl ⟨by simp [ltr, h0, h1, h2, h3], h0, h1, h2, h3⟩
/-- Where the first letters lead, if they lead anywhere. -/
def fwA (F : Nat → ByteArray) (n : Nat) (a : Int × Int) (s : ByteArray) : Nat → Option (Int × Int)
  | 0 => some a
  | k + 1 => match fwA F n a s k with
    | none => none
    | some p => if 0 ≤ ltr (byteAt s k) ∧ opP F n (stp p (ltr (byteAt s k)).toNat) = true then some (stp p (ltr (byteAt s k)).toNat) else none
def fwOk (F : Nat → ByteArray) (n : Nat) (r c : Int) (s : ByteArray) : Bool := sfOk F n r c && (decide (s.size ≤ 200) && (fwA F n (r, c) s s.size).isSome)
def fwP (F : Nat → ByteArray) (n : Nat) (r c : Int) (s : ByteArray) : Int × Int := if fwOk F n r c s = true then (fwA F n (r, c) s s.size).getD (0, 0) else (0, 0)
theorem fwA_none {F : Nat → ByteArray} {n : Nat} {a : Int × Int} {s : ByteArray} {k : Nat} (h : fwA F n a s k = none) : ∀ {m : Nat}, k ≤ m → fwA F n a s m = none
  | 0, hm => by
    obtain rfl : k = 0 := by omega
    cases h
  | m + 1, hm => by
    rcases Nat.lt_or_ge k (m + 1) with h1 | h1
    · rw [fwA, fwA_none h (show k ≤ m by omega)]
    · obtain rfl : k = m + 1 := by omega
      exact h
theorem fwA_step {F : Nat → ByteArray} {n : Nat} {a p : Int × Int} {s : ByteArray} {k d : Nat} (h : fwA F n a s k = some p) (hd : ltr (byteAt s k) = d) (ho : opP F n (stp p d) = true) : fwA F n a s (k + 1) = some (stp p d) := by
  rw [fwA, h]
  simp only [hd, Int.toNat_natCast, ho, and_true]
  rw [if_pos (by omega)]
theorem fwA_wall {F : Nat → ByteArray} {n : Nat} {a p : Int × Int} {s : ByteArray} {k d : Nat} (h : fwA F n a s k = some p) (hd : ltr (byteAt s k) = d) (ho : opP F n (stp p d) = false) : fwA F n a s (k + 1) = none := by
  rw [fwA, h]
  simp only [hd, Int.toNat_natCast, ho]
  rw [if_neg (by simp)]
theorem fwA_bad {F : Nat → ByteArray} {n : Nat} {a p : Int × Int} {s : ByteArray} {k : Nat} (h : fwA F n a s k = some p) (hd : ltr (byteAt s k) = -1) : fwA F n a s (k + 1) = none := by
  rw [fwA, h]
  simp only [hd]
  rw [if_neg (by omega)]
theorem fwA_open {F : Nat → ByteArray} {n : Nat} {a p : Int × Int} {s : ByteArray} (ha : opP F n a = true) : ∀ {k : Nat}, fwA F n a s k = some p → opP F n p = true
  | 0, h => by
    injection h with h
    rw [← h]; exact ha
  | k + 1, h => by
    rw [fwA] at h
    cases e : fwA F n a s k with
    | none => rw [e] at h; cases h
    | some q =>
      rw [e] at h
      simp only at h
      split at h
      · rename_i h1
        injection h with h
        rw [← h]; exact h1.2
      · cases h
theorem fw_no {F : Nat → ByteArray} {n : Nat} {r c : Int} {s : ByteArray} {k : Nat} (h : fwA F n (r, c) s k = none) (hk : k ≤ s.size) : fwOk F n r c s = false := by
  rw [fwOk, fwA_none h hk]
  simp
theorem dLs_get {d : Nat} (h : d < (⟨#[110, 101, 115, 119]⟩ : ByteArray).size) : (((⟨#[110, 101, 115, 119]⟩ : ByteArray)[d]).toNat : Int) = dL d := by
  have h4 : d = 0 ∨ d = 1 ∨ d = 2 ∨ d = 3 := by have : d < 4 := h; omega
  rcases h4 with rfl | rfl | rfl | rfl <;> rfl
set_option maxHeartbeats 1600000 in
theorem seLetter_any (b : Int) (w : World) :
    Calls Tryd.prog 84 #[.int .u8 b] w fun e w' => e = .returned (.int .i64 (ltr b)) ∧ w = w' := by
  go_enter Tryd.func84, Tryd.ntmps84
  go_wp2_with fail
  go_loop [3] (fun dv => ∃ d : Nat, d ≤ 4 ∧ dv = .int .i64 d ∧ Hid (∀ e, e < d → b ≠ dL e)) (fun dv => 4 - (intOf dv).toNat)
  case atStart => exact ⟨0, by omega, rfl, fun e he => by omega⟩
  case round =>
    obtain ⟨d, hd, rfl, he⟩ := hrel
    by_cases hd4 : d < 4
    · have hsz : d < (⟨#[110, 101, 115, 119]⟩ : ByteArray).size := hd4
      have hge := dLs_get hsz
      by_cases hb : b = dL d
      · have hq : (b == (((⟨#[110, 101, 115, 119]⟩ : ByteArray)[d]).toNat : Int)) = true := by rw [hge, hb]; simp
        have HX : Hid (ltr b = d) := by show _ = _; rw [hb]; exact ltr_dL hd4
        clear hb hge
        go_wp2_with fail
        go_ret
        exact ⟨ret_int HX.out.symm, rfl⟩
      · have hq : (b == (((⟨#[110, 101, 115, 119]⟩ : ByteArray)[d]).toNat : Int)) = false := by rw [hge]; simpa using hb
        have HX : Hid (∀ e, e < d + 1 → b ≠ dL e) := fun e h => by
          rcases Nat.lt_or_ge e d with h1 | h1
          · exact he.out e h1
          · obtain rfl : e = d := by omega
            exact hb
        clear hb hge
        go_wp2_with fail
        go_round
        case rel => exact ⟨d + 1, by omega, by go_num, HX.out⟩
        case measure => simp [intOf]; omega
    · obtain rfl : d = 4 := by omega
      have HX : Hid (ltr b = -1) := by
        show _ = _
        rcases ltr_cases b with h | ⟨d, hd, hb, _⟩
        · exact h.1
        · exact absurd hb (he.out d hd)
      go_wp2_with fail
      go_ret
      exact ⟨ret_int HX.out.symm, rfl⟩
theorem extract_one (s : ByteArray) {i : Nat} (hi : i < s.size) : s.extract i (i + 1) = ⟨#[s[i]]⟩ := by
  apply WideShapes.bytes_inj
  rw [ByteArray.data_extract, Array.toList_extract]
  simp only [List.extract_eq_take_drop]
  rw [List.take_drop]
  have h : s.data.toList[i]? = some s[i] := by rw [List.getElem?_eq_getElem (by simpa using hi)]; rfl
  apply List.ext_getElem?
  intro j
  simp only [List.getElem?_drop, List.getElem?_take]
  match j with
  | 0 => simp [h]
  | j + 1 => simp
theorem Contains_d (s : ByteArray) (i : Nat) (hi : i < s.size) (w : World) :
    Calls Tryd.prog 83 #[.string ⟨#[110, 101, 115, 119]⟩, .string (s.extract i (i + 1))] w fun e w' => e = .returned (.bool (decide (0 ≤ ltr (byteAt s i)))) ∧ w = w' := by
  have hcon := Any.strings_Contains_one YtpckhpkbdanjoaaDoor.laysContains ⟨#[110, 101, 115, 119]⟩ s[i] w
  change Calls Tryd.prog 83 _ _ (fun e w' => _) at hcon
  rw [extract_one s hi]
  refine hcon.mono fun e w' ⟨he, hw⟩ => ⟨?_, hw.symm⟩
  rw [he]
  congr 2
  rw [← byteAt_eq hi]
  generalize s[i] = b
  have key : ∀ n : Fin 256, decide (0 ≤ Lib.indexByte [110, 101, 115, 119] (UInt8.ofNat n.val)) = decide (0 ≤ ltr (n.val : Int)) := by decide +kernel
  have h := key ⟨b.toNat, b.toNat_lt⟩
  simp only [UInt8.ofNat_toNat] at h
  exact h

end Go.Proofs.YtpckhpkbdanjoaaDoor
