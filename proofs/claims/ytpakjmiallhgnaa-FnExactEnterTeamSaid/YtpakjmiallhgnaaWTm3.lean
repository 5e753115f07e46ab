/-
  Walks: teams: the last check, the pressure at a minute, the minute of turning, the state.
-/
import Derived.Test.YtpakjmiallhgnaaWTm2
import Derived.Deep.RegionWith
namespace Go.Proofs.Ytpakjmiallhgnaa
set_option linter.unusedVariables false
set_option linter.unusedSimpArgs false
open Go.RowKit

set_option maxRecDepth 100000 in
set_option maxHeartbeats 1600000 in
theorem last_any (T : Tm) (pb po lo hi : Nat) (vc : Value) (w : World) (h : TmAt w pb po T vc lo hi) (hB : tmB T = true) :
    Calls Try.prog 99 #[.pointer (some ⟨pb, po, none⟩)] w fun e w' => e = .returned (.agg #[.int .i64 T.lm, .int .i64 T.lb]) ∧ Below w.heap.size w w' := by
  obtain ⟨hl, c0, c1, c2, c3, hs, hhi⟩ := h
  obtain ⟨_, _, _, f4, _⟩ := tm_facts hB
  clear hB
  obtain ⟨A, cap, rfl, hcap, hA⟩ := hs.open_
  obtain ⟨blk, off, rfl, h1, h2, h3⟩ := hA (by omega)
  have d0 : w.cell? ⟨blk, off + (T.n - 1) * 2, none⟩ = some (.int .i64 T.lm) := h3 (T.n - 1) 0 (by omega) (by omega)
  have d1 : w.cell? ⟨blk, off + (T.n - 1) * 2 + 1, none⟩ = some (.int .i64 T.lb) := h3 (T.n - 1) 1 (by omega) (by omega)
  have l1 : blk < w.heap.size := by omega
  clear h3 hA
  go_enter Try.func99, Try.ntmps99
  go_wp2_with fail
  go_region
  all_goals go_wp2_with fail
  all_goals exact bodyPost_ret (v := .agg #[.int .i64 T.lm, .int .i64 T.lb]) (by simp [results, Try.results99, go_sem]) rfl ⟨rfl, (by repeat (first | (with_reducible exact Below.refl _ _) | (with_reducible refine below_ov ?_ ?_) | (with_reducible refine Below.setCell ?_ ?_ _) | (with_reducible refine Below.alloc ?_ ?_ _) | (with_reducible refine Below.drew ?_) | (with_reducible refine below_drewN ?_ _) | (refine Below.trans ?_ (Below.mono ‹Below _ _ _› (by first | omega | (simp; done) | (simp; omega)))) | exact Below.refl _ _ | omega | (focus (simp; done)) | (focus (simp; omega))))⟩
set_option maxRecDepth 100000 in
set_option maxHeartbeats 1600000 in
theorem enLast_any (T : Tm) (lo hi : Nat) (vc : Value) (w : World) (hs : Sl w lo hi 2 vc T.n (iiC T.m T.b)) (hhi : hi ≤ w.heap.size) (hB : tmB T = true) :
    Calls Try.prog 97 #[.agg #[.string T.s, .int .i64 T.v, .int .i64 T.y, vc]] w fun e w' => e = .returned (.tuple #[.agg #[.int .i64 T.v, .int .i64 T.lb], .int .i64 T.lm]) ∧ Below w.heap.size w w' := by
  obtain ⟨_, _, _, f4, _⟩ := tm_facts hB
  clear hB
  obtain ⟨A, cap, rfl, hcap, hA⟩ := hs.open_
  obtain ⟨blk, off, rfl, h1, h2, h3⟩ := hA (by omega)
  have d0 : w.cell? ⟨blk, off + (T.n - 1) * 2, none⟩ = some (.int .i64 T.lm) := h3 (T.n - 1) 0 (by omega) (by omega)
  have d1 : w.cell? ⟨blk, off + (T.n - 1) * 2 + 1, none⟩ = some (.int .i64 T.lb) := h3 (T.n - 1) 1 (by omega) (by omega)
  have l1 : blk < w.heap.size := by omega
  clear h3 hA
  go_enter Try.func97, Try.ntmps97
  go_wp2_with fail
  go_region
  all_goals go_wp2_with fail
  all_goals exact bodyPost_ret (v := .tuple #[.agg #[.int .i64 T.v, .int .i64 T.lb], .int .i64 T.lm]) (by simp [results, Try.results97, go_sem]) rfl ⟨rfl, (by repeat (first | (with_reducible exact Below.refl _ _) | (with_reducible refine below_ov ?_ ?_) | (with_reducible refine Below.setCell ?_ ?_ _) | (with_reducible refine Below.alloc ?_ ?_ _) | (with_reducible refine Below.drew ?_) | (with_reducible refine below_drewN ?_ _) | (refine Below.trans ?_ (Below.mono ‹Below _ _ _› (by first | omega | (simp; done) | (simp; omega)))) | exact Below.refl _ _ | omega | (focus (simp; done)) | (focus (simp; omega))))⟩
set_option maxRecDepth 100000 in
set_option maxHeartbeats 1600000 in
theorem cylinder_any (T : Tm) (pb po lo hi : Nat) (vc : Value) (w : World) (h : TmAt w pb po T vc lo hi) (hB : tmB T = true) :
    Calls Try.prog 100 #[.pointer (some ⟨pb, po, none⟩)] w fun e w' => e = .returned (.agg #[.int .i64 T.v, .int .i64 T.lb]) ∧ Below w.heap.size w w' := by
  have H := hide h
  have HB := hide hB
  obtain ⟨hl, c0, c1, c2, c3, hs, hhi⟩ := h
  clear hB hs c3 c2 c0
  have hfl : ∀ (x y : Value) (w : World), (Instr.field 47 (.agg #[x, y]) 1).run Try.prog w = .ok y w := fun _ _ _ => by kernel_rfl
  go_enter Try.func100, Try.ntmps100
  go_wp2_with fail
  go_region_with (go_at_call 99; refine (last_any T pb po lo hi vc _ (H.out.below (B := w.heap.size) (by repeat (first | (with_reducible exact Below.refl _ _) | (with_reducible refine below_ov ?_ ?_) | (with_reducible refine Below.setCell ?_ ?_ _) | (with_reducible refine Below.alloc ?_ ?_ _) | (with_reducible refine Below.drew ?_) | (with_reducible refine below_drewN ?_ _) | (refine Below.trans ?_ (Below.mono ‹Below _ _ _› (by first | omega | (simp; done) | (simp; omega)))) | exact Below.refl _ _ | omega | (focus (simp; done)) | (focus (simp; omega)))) (Nat.le_refl _)) HB.out).mono ?_; rintro e w2 ⟨rfl, hb2⟩; have hz2 := hb2.size; simp at hz2; have x0 := (hb2.cell (p := ⟨w.heap.size, 0, none⟩) (by simp)).trans (by simp [go_sem]; rfl); have x1 := (hb2.cell (p := ⟨w.heap.size, 1, none⟩) (by simp)).trans (by simp [go_sem]; rfl); have xf : ∀ o, w2.frozen? ⟨w.heap.size, o, none⟩ = false := fun o => (hb2.frozen (p := ⟨w.heap.size, o, none⟩) (by simp)).trans (by simp [go_sem]); have xc := (hb2.cell (p := ⟨pb, po + 1, none⟩) (by simp; omega)).trans (by simp [go_sem, hl, c1]; rfl))
  all_goals go_wp2_with fail
  all_goals exact bodyPost_ret (v := .agg #[.int .i64 T.v, .int .i64 T.lb]) (by simp [results, Try.results100, go_sem, *]) rfl ⟨rfl, (by repeat (first | (with_reducible exact Below.refl _ _) | (with_reducible refine below_ov ?_ ?_) | (with_reducible refine Below.setCell ?_ ?_ _) | (with_reducible refine Below.alloc ?_ ?_ _) | (with_reducible refine Below.drew ?_) | (with_reducible refine below_drewN ?_ _) | (refine Below.trans ?_ (Below.mono ‹Below _ _ _› (by first | omega | (simp; done) | (simp; omega)))) | exact Below.refl _ _ | omega | (focus (simp; done)) | (focus (simp; omega))))⟩
set_option maxRecDepth 100000 in
set_option maxHeartbeats 1600000 in
theorem turn_any (T : Tm) (pb po lo hi : Nat) (vc : Value) (w : World) (h : TmAt w pb po T vc lo hi) (hB : tmB T = true) :
    Calls Try.prog 77 #[.pointer (some ⟨pb, po, none⟩)] w fun e w' => e = .returned (.tuple #[.int .i64 (tmTN T), .bool (tmTOk T)]) ∧ Below w.heap.size w w' := by
  have H := hide h
  have HB := hide hB
  obtain ⟨hl, c0, c1, c2, c3, hs, hhi⟩ := h
  obtain ⟨_, f2, f3, f4, f5, f6⟩ := tm_facts hB
  have f7 := tmT_bd T
  have f8 := tmR_bd (T := T)
  clear hB hs c3 c1 c0
  have hfl0 : ∀ (x y : Value) (w : World), (Instr.field 47 (.agg #[x, y]) 0).run Try.prog w = .ok x w := fun _ _ _ => by kernel_rfl
  go_enter Try.func77, Try.ntmps77
  go_wp2_with fail
  cases ht : latOk T.v T.lb (tmR T) T.y 50 with
  | false =>
    have HE : Hid (tmTOk T = false ∧ tmTN T = 0) := by
      have h1 : ¬ 0 ≤ tmT T := of_decide_eq_false ht
      exact ⟨decide_eq_false h1, by rw [tmTN, if_pos (by omega)]⟩
    (refine wp_region_below_lit (by kernel_rfl) (by kernel_rfl) ?_; (repeat (first | go_big_quiet_step ((first | (go_at_call 100; exact quiet_ov (cylinder_any T pb po lo hi vc _ (H.out.below (B := w.heap.size) (by repeat (first | (with_reducible exact Below.refl _ _) | (with_reducible refine below_ov ?_ ?_) | (with_reducible refine Below.setCell ?_ ?_ _) | (with_reducible refine Below.alloc ?_ ?_ _) | (with_reducible refine Below.drew ?_) | (with_reducible refine below_drewN ?_ _) | (refine Below.trans ?_ (Below.mono ‹Below _ _ _› (by first | omega | (simp; done) | (simp; omega)))) | exact Below.refl _ _ | omega | (focus (simp; done)) | (focus (simp; omega)))) (Nat.le_refl _)) HB.out)) | (go_at_call 80; exact quiet_ov (rate_any T pb po lo hi vc _ (H.out.below (B := w.heap.size) (by repeat (first | (with_reducible exact Below.refl _ _) | (with_reducible refine below_ov ?_ ?_) | (with_reducible refine Below.setCell ?_ ?_ _) | (with_reducible refine Below.alloc ?_ ?_ _) | (with_reducible refine Below.drew ?_) | (with_reducible refine below_drewN ?_ _) | (refine Below.trans ?_ (Below.mono ‹Below _ _ _› (by first | omega | (simp; done) | (simp; omega)))) | exact Below.refl _ _ | omega | (focus (simp; done)) | (focus (simp; omega)))) (Nat.le_refl _)) HB.out)) | (go_at_call 119; exact quiet_ov (latestTurn_any T.v T.lb (tmR T) T.y 50 _ (by omega) (by omega) (by omega) (by omega) (by omega) (by omega) (by omega) (by omega))))) | quiet_step ((first | (go_at_call 100; exact quiet_ov (cylinder_any T pb po lo hi vc _ (H.out.below (B := w.heap.size) (by repeat (first | (with_reducible exact Below.refl _ _) | (with_reducible refine below_ov ?_ ?_) | (with_reducible refine Below.setCell ?_ ?_ _) | (with_reducible refine Below.alloc ?_ ?_ _) | (with_reducible refine Below.drew ?_) | (with_reducible refine below_drewN ?_ _) | (refine Below.trans ?_ (Below.mono ‹Below _ _ _› (by first | omega | (simp; done) | (simp; omega)))) | exact Below.refl _ _ | omega | (focus (simp; done)) | (focus (simp; omega)))) (Nat.le_refl _)) HB.out)) | (go_at_call 80; exact quiet_ov (rate_any T pb po lo hi vc _ (H.out.below (B := w.heap.size) (by repeat (first | (with_reducible exact Below.refl _ _) | (with_reducible refine below_ov ?_ ?_) | (with_reducible refine Below.setCell ?_ ?_ _) | (with_reducible refine Below.alloc ?_ ?_ _) | (with_reducible refine Below.drew ?_) | (with_reducible refine below_drewN ?_ _) | (refine Below.trans ?_ (Below.mono ‹Below _ _ _› (by first | omega | (simp; done) | (simp; omega)))) | exact Below.refl _ _ | omega | (focus (simp; done)) | (focus (simp; omega)))) (Nat.le_refl _)) HB.out)) | (go_at_call 119; exact quiet_ov (latestTurn_any T.v T.lb (tmR T) T.y 50 _ (by omega) (by omega) (by omega) (by omega) (by omega) (by omega) (by omega) (by omega))))))); refine wpQuiet_nil ?_; intro w1 hb1; have hz1 := hb1.size; (try (simp at hz1)); obtain ⟨hcw1, hfw1⟩ := bcell hb1; (try (have hy1 : w.heap.size < w1.heap.size := by omega)); (try (have hyy1 : w.heap.size + 1 < w1.heap.size := by omega)))
    go_wp2_with fail
    go_ret2
    exact ⟨ret_ib HE.out.2.symm HE.out.1.symm, (by repeat (first | (with_reducible exact Below.refl _ _) | (with_reducible refine below_ov ?_ ?_) | (with_reducible refine Below.setCell ?_ ?_ _) | (with_reducible refine Below.alloc ?_ ?_ _) | (with_reducible refine Below.drew ?_) | (with_reducible refine below_drewN ?_ _) | (refine Below.trans ?_ (Below.mono ‹Below _ _ _› (by first | omega | (simp; done) | (simp; omega)))) | exact Below.refl _ _ | omega | (focus (simp; done)) | (focus (simp; omega))))⟩
  | true =>
    have HE : Hid (tmTOk T = true ∧ tmTN T = T.lm + latN T.v T.lb (tmR T) T.y 50) := by
      have h1 : 0 ≤ tmT T := of_decide_eq_true ht
      refine ⟨decide_eq_true h1, ?_⟩
      rw [tmTN, latN, if_neg (by omega), if_neg (by unfold tmT at h1; omega)]; rfl
    have f9 : 0 ≤ latN T.v T.lb (tmR T) T.y 50 ∧ latN T.v T.lb (tmR T) T.y 50 ≤ 600 := by
      have := timeF_bd T.v T.lb (tmR T) T.y 50
      unfold latN; split <;> omega
    (refine wp_region_below_lit (by kernel_rfl) (by kernel_rfl) ?_; (repeat (first | go_big_quiet_step ((first | (go_at_call 100; exact quiet_ov (cylinder_any T pb po lo hi vc _ (H.out.below (B := w.heap.size) (by repeat (first | (with_reducible exact Below.refl _ _) | (with_reducible refine below_ov ?_ ?_) | (with_reducible refine Below.setCell ?_ ?_ _) | (with_reducible refine Below.alloc ?_ ?_ _) | (with_reducible refine Below.drew ?_) | (with_reducible refine below_drewN ?_ _) | (refine Below.trans ?_ (Below.mono ‹Below _ _ _› (by first | omega | (simp; done) | (simp; omega)))) | exact Below.refl _ _ | omega | (focus (simp; done)) | (focus (simp; omega)))) (Nat.le_refl _)) HB.out)) | (go_at_call 80; exact quiet_ov (rate_any T pb po lo hi vc _ (H.out.below (B := w.heap.size) (by repeat (first | (with_reducible exact Below.refl _ _) | (with_reducible refine below_ov ?_ ?_) | (with_reducible refine Below.setCell ?_ ?_ _) | (with_reducible refine Below.alloc ?_ ?_ _) | (with_reducible refine Below.drew ?_) | (with_reducible refine below_drewN ?_ _) | (refine Below.trans ?_ (Below.mono ‹Below _ _ _› (by first | omega | (simp; done) | (simp; omega)))) | exact Below.refl _ _ | omega | (focus (simp; done)) | (focus (simp; omega)))) (Nat.le_refl _)) HB.out)) | (go_at_call 119; exact quiet_ov (latestTurn_any T.v T.lb (tmR T) T.y 50 _ (by omega) (by omega) (by omega) (by omega) (by omega) (by omega) (by omega) (by omega))))) | quiet_step ((first | (go_at_call 100; exact quiet_ov (cylinder_any T pb po lo hi vc _ (H.out.below (B := w.heap.size) (by repeat (first | (with_reducible exact Below.refl _ _) | (with_reducible refine below_ov ?_ ?_) | (with_reducible refine Below.setCell ?_ ?_ _) | (with_reducible refine Below.alloc ?_ ?_ _) | (with_reducible refine Below.drew ?_) | (with_reducible refine below_drewN ?_ _) | (refine Below.trans ?_ (Below.mono ‹Below _ _ _› (by first | omega | (simp; done) | (simp; omega)))) | exact Below.refl _ _ | omega | (focus (simp; done)) | (focus (simp; omega)))) (Nat.le_refl _)) HB.out)) | (go_at_call 80; exact quiet_ov (rate_any T pb po lo hi vc _ (H.out.below (B := w.heap.size) (by repeat (first | (with_reducible exact Below.refl _ _) | (with_reducible refine below_ov ?_ ?_) | (with_reducible refine Below.setCell ?_ ?_ _) | (with_reducible refine Below.alloc ?_ ?_ _) | (with_reducible refine Below.drew ?_) | (with_reducible refine below_drewN ?_ _) | (refine Below.trans ?_ (Below.mono ‹Below _ _ _› (by first | omega | (simp; done) | (simp; omega)))) | exact Below.refl _ _ | omega | (focus (simp; done)) | (focus (simp; omega)))) (Nat.le_refl _)) HB.out)) | (go_at_call 119; exact quiet_ov (latestTurn_any T.v T.lb (tmR T) T.y 50 _ (by omega) (by omega) (by omega) (by omega) (by omega) (by omega) (by omega) (by omega))))))); refine wpQuiet_nil ?_; intro w1 hb1; have hz1 := hb1.size; (try (simp at hz1)); obtain ⟨hcw1, hfw1⟩ := bcell hb1; (try (have hy1 : w.heap.size < w1.heap.size := by omega)); (try (have hyy1 : w.heap.size + 1 < w1.heap.size := by omega)))
    go_wp2_with fail
    refine (last_any T pb po lo hi vc _ (H.out.below (B := w.heap.size) (by repeat (first | (with_reducible exact Below.refl _ _) | (with_reducible refine below_ov ?_ ?_) | (with_reducible refine Below.setCell ?_ ?_ _) | (with_reducible refine Below.alloc ?_ ?_ _) | (with_reducible refine Below.drew ?_) | (with_reducible refine below_drewN ?_ _) | (refine Below.trans ?_ (Below.mono ‹Below _ _ _› (by first | omega | (simp; done) | (simp; omega)))) | exact Below.refl _ _ | omega | (focus (simp; done)) | (focus (simp; omega)))) (Nat.le_refl _)) HB.out).mono ?_
    rintro e w3 ⟨rfl, hb3⟩
    have hz3 := hb3.size
    go_wp2_with fail
    go_ret2
    exact ⟨ret_ib HE.out.2.symm HE.out.1.symm, (by repeat (first | (with_reducible exact Below.refl _ _) | (with_reducible refine below_ov ?_ ?_) | (with_reducible refine Below.setCell ?_ ?_ _) | (with_reducible refine Below.alloc ?_ ?_ _) | (with_reducible refine Below.drew ?_) | (with_reducible refine below_drewN ?_ _) | (refine Below.trans ?_ (Below.mono ‹Below _ _ _› (by first | omega | (simp; done) | (simp; omega)))) | exact Below.refl _ _ | omega | (focus (simp; done)) | (focus (simp; omega))))⟩
set_option maxRecDepth 100000 in
set_option maxHeartbeats 1600000 in
theorem enTurn_any (T : Tm) (lo hi : Nat) (vc : Value) (w : World) (hs : Sl w lo hi 2 vc T.n (iiC T.m T.b)) (hhi : hi ≤ w.heap.size) (hB : tmB T = true) :
    Calls Try.prog 79 #[.agg #[.string T.s, .int .i64 T.v, .int .i64 T.y, vc]] w fun e w' => e = .returned (.tuple #[.int .i64 (tmTN T), .bool (tmTOk T)]) ∧ Below w.heap.size w w' := by
  have HB := hide hB
  obtain ⟨_, f2, f3, f4, f5, f6⟩ := tm_facts hB
  have f7 := tmT_bd T
  have f8 := tmR_bd (T := T)
  clear hB
  go_enter Try.func79, Try.ntmps79
  go_wp2_with fail
  refine (enLast_any T lo hi vc _ (hs.below (B := w.heap.size) (by repeat (first | (with_reducible exact Below.refl _ _) | (with_reducible refine below_ov ?_ ?_) | (with_reducible refine Below.setCell ?_ ?_ _) | (with_reducible refine Below.alloc ?_ ?_ _) | (with_reducible refine Below.drew ?_) | (with_reducible refine below_drewN ?_ _) | (refine Below.trans ?_ (Below.mono ‹Below _ _ _› (by first | omega | (simp; done) | (simp; omega)))) | exact Below.refl _ _ | omega | (focus (simp; done)) | (focus (simp; omega)))) hhi) (by first | omega | (simp; done) | (simp; omega)) HB.out).mono ?_
  rintro e w1 ⟨rfl, hb1⟩
  have hz1 := hb1.size
  go_wp2_with fail
  have x0 : w1.cell? ⟨w.heap.size, 0, none⟩ = some (.string T.s) := (hb1.cell (p := ⟨w.heap.size, 0, none⟩) (by simp)).trans (World.cell?_alloc_new _ _ _ _)
  have x1 : w1.cell? ⟨w.heap.size, 1, none⟩ = some (.int .i64 T.v) := (hb1.cell (p := ⟨w.heap.size, 1, none⟩) (by simp)).trans (World.cell?_alloc_new _ _ _ _)
  have x2 : w1.cell? ⟨w.heap.size, 2, none⟩ = some (.int .i64 T.y) := (hb1.cell (p := ⟨w.heap.size, 2, none⟩) (by simp)).trans (World.cell?_alloc_new _ _ _ _)
  have x3 : w1.cell? ⟨w.heap.size, 3, none⟩ = some vc := (hb1.cell (p := ⟨w.heap.size, 3, none⟩) (by simp)).trans (World.cell?_alloc_new _ _ _ _)
  have l1 : w.heap.size < w1.heap.size := by simp at hz1; omega
  cases ht : decide (timeF T.v T.lb (tmR T) T.y 50 < 0) with
  | true =>
    have HE : Hid (tmTOk T = false ∧ tmTN T = 0) := by
      have h1 : tmT T < 0 := of_decide_eq_true ht
      exact ⟨decide_eq_false (by omega), by rw [tmTN, if_pos h1]⟩
    (refine wp_region_below_lit (by kernel_rfl) (by kernel_rfl) ?_; (repeat (first | go_big_quiet_step ((first | (go_at_call 81; exact quiet_ov (enRate_any T lo hi vc _ (hs.below (B := w.heap.size) (by repeat (first | (with_reducible exact Below.refl _ _) | (with_reducible refine below_ov ?_ ?_) | (with_reducible refine Below.setCell ?_ ?_ _) | (with_reducible refine Below.alloc ?_ ?_ _) | (with_reducible refine Below.drew ?_) | (with_reducible refine below_drewN ?_ _) | (refine Below.trans ?_ (Below.mono ‹Below _ _ _› (by first | omega | (simp; done) | (simp; omega)))) | exact Below.refl _ _ | omega | (focus (simp; done)) | (focus (simp; omega)))) hhi) (by simp [ov]; omega) HB.out)) | (go_at_call 121; exact quiet_ov (cyTime_any T.v T.lb (tmR T) T.y 50 _ (by omega) (by omega) (by omega) (by omega) (by omega) (by omega) (by omega) (by omega))))) | quiet_step ((first | (go_at_call 81; exact quiet_ov (enRate_any T lo hi vc _ (hs.below (B := w.heap.size) (by repeat (first | (with_reducible exact Below.refl _ _) | (with_reducible refine below_ov ?_ ?_) | (with_reducible refine Below.setCell ?_ ?_ _) | (with_reducible refine Below.alloc ?_ ?_ _) | (with_reducible refine Below.drew ?_) | (with_reducible refine below_drewN ?_ _) | (refine Below.trans ?_ (Below.mono ‹Below _ _ _› (by first | omega | (simp; done) | (simp; omega)))) | exact Below.refl _ _ | omega | (focus (simp; done)) | (focus (simp; omega)))) hhi) (by simp [ov]; omega) HB.out)) | (go_at_call 121; exact quiet_ov (cyTime_any T.v T.lb (tmR T) T.y 50 _ (by omega) (by omega) (by omega) (by omega) (by omega) (by omega) (by omega) (by omega))))))); refine wpQuiet_nil ?_; intro w2 hb2; have hz2 := hb2.size; (try (simp at hz2)); obtain ⟨hcw2, hfw2⟩ := bcell hb2; (try (have hy2 : w.heap.size < w2.heap.size := by omega)); (try (have hyy2 : w.heap.size + 1 < w2.heap.size := by omega)))
    go_wp2_with fail
    go_ret2
    exact ⟨ret_ib HE.out.2.symm HE.out.1.symm, (by repeat (first | (with_reducible exact Below.refl _ _) | (with_reducible refine below_ov ?_ ?_) | (with_reducible refine Below.setCell ?_ ?_ _) | (with_reducible refine Below.alloc ?_ ?_ _) | (with_reducible refine Below.drew ?_) | (with_reducible refine below_drewN ?_ _) | (refine Below.trans ?_ (Below.mono ‹Below _ _ _› (by first | omega | (simp; done) | (simp; omega)))) | exact Below.refl _ _ | omega | (focus (simp; done)) | (focus (simp; omega))))⟩
  | false =>
    have HE : Hid (tmTOk T = true ∧ tmTN T = T.lm + timeF T.v T.lb (tmR T) T.y 50) := by
      have h1 : ¬ tmT T < 0 := of_decide_eq_false ht
      exact ⟨decide_eq_true (by omega), by rw [tmTN, if_neg h1]; rfl⟩
    have f9 := timeF_bd T.v T.lb (tmR T) T.y 50
    (refine wp_region_below_lit (by kernel_rfl) (by kernel_rfl) ?_; (repeat (first | go_big_quiet_step ((first | (go_at_call 81; exact quiet_ov (enRate_any T lo hi vc _ (hs.below (B := w.heap.size) (by repeat (first | (with_reducible exact Below.refl _ _) | (with_reducible refine below_ov ?_ ?_) | (with_reducible refine Below.setCell ?_ ?_ _) | (with_reducible refine Below.alloc ?_ ?_ _) | (with_reducible refine Below.drew ?_) | (with_reducible refine below_drewN ?_ _) | (refine Below.trans ?_ (Below.mono ‹Below _ _ _› (by first | omega | (simp; done) | (simp; omega)))) | exact Below.refl _ _ | omega | (focus (simp; done)) | (focus (simp; omega)))) hhi) (by simp [ov]; omega) HB.out)) | (go_at_call 121; exact quiet_ov (cyTime_any T.v T.lb (tmR T) T.y 50 _ (by omega) (by omega) (by omega) (by omega) (by omega) (by omega) (by omega) (by omega))))) | quiet_step ((first | (go_at_call 81; exact quiet_ov (enRate_any T lo hi vc _ (hs.below (B := w.heap.size) (by repeat (first | (with_reducible exact Below.refl _ _) | (with_reducible refine below_ov ?_ ?_) | (with_reducible refine Below.setCell ?_ ?_ _) | (with_reducible refine Below.alloc ?_ ?_ _) | (with_reducible refine Below.drew ?_) | (with_reducible refine below_drewN ?_ _) | (refine Below.trans ?_ (Below.mono ‹Below _ _ _› (by first | omega | (simp; done) | (simp; omega)))) | exact Below.refl _ _ | omega | (focus (simp; done)) | (focus (simp; omega)))) hhi) (by simp [ov]; omega) HB.out)) | (go_at_call 121; exact quiet_ov (cyTime_any T.v T.lb (tmR T) T.y 50 _ (by omega) (by omega) (by omega) (by omega) (by omega) (by omega) (by omega) (by omega))))))); refine wpQuiet_nil ?_; intro w2 hb2; have hz2 := hb2.size; (try (simp at hz2)); obtain ⟨hcw2, hfw2⟩ := bcell hb2; (try (have hy2 : w.heap.size < w2.heap.size := by omega)); (try (have hyy2 : w.heap.size + 1 < w2.heap.size := by omega)))
    go_wp2_with fail
    go_ret2
    exact ⟨ret_ib HE.out.2.symm HE.out.1.symm, (by repeat (first | (with_reducible exact Below.refl _ _) | (with_reducible refine below_ov ?_ ?_) | (with_reducible refine Below.setCell ?_ ?_ _) | (with_reducible refine Below.alloc ?_ ?_ _) | (with_reducible refine Below.drew ?_) | (with_reducible refine below_drewN ?_ _) | (refine Below.trans ?_ (Below.mono ‹Below _ _ _› (by first | omega | (simp; done) | (simp; omega)))) | exact Below.refl _ _ | omega | (focus (simp; done)) | (focus (simp; omega))))⟩

end Go.Proofs.Ytpakjmiallhgnaa
