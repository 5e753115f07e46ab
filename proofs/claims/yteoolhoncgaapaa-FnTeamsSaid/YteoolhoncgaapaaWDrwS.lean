/-
  Walks: drawn arguments of the laws on teams' cylinders.
-/
import Derived.Test.YteoolhoncgaapaaWDrwK
import Derived.Test.YteoolhoncgaapaaWCyl
import Derived.Test.YteoolhoncgaapaaPRow
namespace Go.Proofs.Yteoolhoncgaapaa
set_option linter.unusedVariables false
set_option linter.unusedSimpArgs false
open Go.RowKit

theorem IRow.mono {w : World} {lo lo' sz n : Nat} {v : Value} (h : IRow w lo sz v n) (hl : lo' ≤ lo) : IRow w lo' sz v n := by
  rcases h with h | ⟨q, cap, h0, h1, h2, h3⟩
  · exact .inl h
  · exact .inr ⟨q, cap, h0, h1, by omega, h3⟩
set_option maxRecDepth 100000 in
set_option maxHeartbeats 3200000 in
theorem DrawWorstRate_any (v : Value) (w : World) (h : Code w v) :
    Calls Try.prog 30 #[v] w fun e w' => ∃ (x : Int) (u : Value), e = .returned (.tuple #[.int .i64 x, u]) ∧ ∃ k : Nat, IRow w' w.heap.size 2 u k ∧ k ≤ 21 ∧ Below w.heap.size w w' := by
  obtain ⟨A, n, cap, rfl⟩ := h.form
  have hC0 : Cu (w.alloc (.cells #[.slice A n cap, .int .i64 0, .int .u64 0] 75)) w.heap.size 0 := Cu.start h _
  have O0 : Only w.heap.size (w.heap.size + 1) w (w.alloc (.cells #[.slice A n cap, .int .i64 0, .int .u64 0] 75)) := (Only.refl _ _ w).alloc _
  have hfl : ∀ x y w, (Instr.field 26 (.agg #[x, y]) 0).run Try.prog w = .ok x w := fun _ _ _ => by kernel_rfl
  go_enter Try.func30, Try.ntmps30
  go_wp2_with fail
  refine (cylinder_any _ _ _ hC0 (by omega)).mono ?_
  rintro e w1 ⟨x, y, rfl, hC1, hO1⟩
  have O1 := O0.trans hO1
  clear O0 hO1 hC0
  go_wp2_with fail
  refine (checks_any _ _ _ hC1 (by omega)).mono ?_
  rintro e w2 ⟨u, rfl, k, hR, hk, hC2, hO2⟩
  have O2 := O1.trans hO2
  have hz1 := O1.size
  clear O1 hO2 hC1
  have hb : Below w.heap.size w w2 := O2.below (by omega) (Nat.le_refl _)
  have HR : Hid (IRow w2 w.heap.size 2 u k) := hR.mono hz1
  clear O2 hR hC2
  go_wp2_with fail
  go_ret2
  exact ⟨_, _, rfl, k, HR.out, hk, hb⟩
set_option maxRecDepth 100000 in
set_option maxHeartbeats 3200000 in
theorem DrawTurnBar_any (v : Value) (w : World) (h : Code w v) :
    Calls Try.prog 33 #[v] w fun e w' => ∃ x y z : Int, e = .returned (.tuple #[.int .i64 x, .int .i64 y, .int .i64 z]) ∧ Below w.heap.size w w' := by
  obtain ⟨A, n, cap, rfl⟩ := h.form
  have hC0 : Cu (w.alloc (.cells #[.slice A n cap, .int .i64 0, .int .u64 0] 75)) w.heap.size 0 := Cu.start h _
  have O0 : Only w.heap.size (w.heap.size + 1) w (w.alloc (.cells #[.slice A n cap, .int .i64 0, .int .u64 0] 75)) := (Only.refl _ _ w).alloc _
  go_enter Try.func33, Try.ntmps33
  go_wp2_with fail
  refine (barOf_any _ _ _ hC0 (by omega)).mono ?_
  rintro e w1 ⟨x, rfl, hC1, hO1⟩
  have O1 := O0.trans hO1
  clear O0 hO1 hC0
  go_wp2_with fail
  refine (among_new _ _ _ _ _ _ _ hC1 (by first | (with_reducible rfl) | simp) (by omega) (by rfl) (by decide) (by decide) (by simp [isI])).mono ?_
  rintro e w2 ⟨s, rfl, _, hC2, hO2⟩
  have O2 := O1.trans hO2
  clear O1 hO2 hC1
  go_wp2_with fail
  refine (cyBar_any _ _).mono ?_
  rintro e w3 ⟨rfl, rfl⟩
  cases e1 : inB s 0 330 with
  | false =>
    clear e1
    go_wp2_with fail
    refine (reserveOf_any _ _ _ hC2 (by omega)).mono ?_
    rintro e w4 ⟨r, rfl, hC4, hO4⟩
    have O4 := O2.trans hO4
    have hb : Below w.heap.size w w4 := O4.below (by omega) (Nat.le_refl _)
    clear O2 O4 hO4 hC2 hC4
    go_wp2_with fail
    go_ret3
    exact ⟨_, _, _, rfl, hb⟩
  | true =>
    clear e1
    go_wp2_with fail
    refine (among_new _ _ _ _ _ _ _ hC2 (by first | (with_reducible rfl) | simp) (by omega) (by rfl) (by decide) (by decide) (by simp [isI])).mono ?_
    rintro e w3 ⟨d, rfl, _, hC3, hO3⟩
    have O3 := O2.trans hO3
    clear O2 hO3 hC2
    go_wp2_with fail
    refine (l1Most_any _ _ _).mono ?_
    rintro e w5 ⟨rfl, rfl⟩
    go_wp2_with fail
    refine (reserveOf_any _ _ _ hC3 (by omega)).mono ?_
    rintro e w4 ⟨r, rfl, hC4, hO4⟩
    have O4 := O3.trans hO4
    have hb : Below w.heap.size w w4 := O4.below (by omega) (Nat.le_refl _)
    clear O3 O4 hO4 hC3 hC4
    go_wp2_with fail
    go_ret3
    exact ⟨_, _, _, rfl, hb⟩

end Go.Proofs.Yteoolhoncgaapaa
