/-
  Walks: the reference's cursor over the drawn bytes: whatever it draws, it draws something in bounds.
-/
import Derived.Test.YteoolhoncgaapaaPMark0
import Derived.Test.YteoolhoncgaapaaCells
import Derived.BigRegion
import Derived.Deep.Heap
namespace Go.Proofs.Yteoolhoncgaapaa
set_option linter.unusedVariables false
set_option linter.unusedSimpArgs false
open Go.RowKit

/-- A cursor in block g, that has taken a bytes. -/
def Cur (w : World) (g a : Nat) : Prop :=
  ∃ (A : Option Addr) (L cap : Nat) (f : Nat → Int) (s : Int), w.cell? ⟨g, 0, none⟩ = some (.slice A L cap) ∧ w.cell? ⟨g, 1, none⟩ = some (.int .i64 (a : Nat)) ∧ w.cell? ⟨g, 2, none⟩ = some (.int .u64 s) ∧ (∀ o, w.frozen? ⟨g, o, none⟩ = false) ∧
    (0 ≤ s ∧ s < 18446744073709551616) ∧ L ≤ 9223372036854775807 ∧ (∀ i, i < L → 0 ≤ f i ∧ f i ≤ 255) ∧ (0 < L → ∃ b off, A = some ⟨b, off, none⟩ ∧ b < g ∧ b < w.heap.size ∧ ∀ i, i < L → w.cell? ⟨b, off + i, none⟩ = some (.int .u8 (f i))) ∧ g < w.heap.size
theorem Cur.below {w w' : World} {g a B : Nat} (h : Cur w g a) (hb : Below B w w') (hB : w.heap.size ≤ B) : Cur w' g a := by
  obtain ⟨A, L, cap, f, s, h0, h1, h2, h3, h4, h5, h6, h7, h8⟩ := h
  refine ⟨A, L, cap, f, s, (hb.cell (p := ⟨g, 0, none⟩) (by show g < _; omega)).trans h0, (hb.cell (p := ⟨g, 1, none⟩) (by show g < _; omega)).trans h1, (hb.cell (p := ⟨g, 2, none⟩) (by show g < _; omega)).trans h2, fun o => (hb.frozen (p := ⟨g, o, none⟩) (by show g < _; omega)).trans (h3 o), h4, h5, h6, fun h0 => ?_, Nat.lt_of_lt_of_le h8 hb.size⟩
  obtain ⟨b, off, e, hne, hlt, hc⟩ := h7 h0
  exact ⟨b, off, e, hne, Nat.lt_of_lt_of_le hlt hb.size, fun i hi => (hb.cell (p := ⟨b, off + i, none⟩) (by show b < _; omega)).trans (hc i hi)⟩
theorem Cur.lt {w : World} {g a : Nat} (h : Cur w g a) : g < w.heap.size := by
  obtain ⟨_, _, _, _, _, _, _, _, _, _, _, _, _, h⟩ := h
  exact h
theorem Only.drew {lo hi : Nat} {w w' : World} (h : Only lo hi w w') : Only lo hi w w'.drew := ⟨h.os, h.tape, h.output, h.size, h.block⟩
theorem Only.drewN {lo hi : Nat} {w w' : World} (h : Only lo hi w w') (n : Nat) : Only lo hi w (w'.drewN n) := ⟨h.os, h.tape, h.output, h.size, h.block⟩
theorem Cur.drew {w : World} {g a : Nat} (h : Cur w g a) : Cur w.drew g a := h
theorem and255 (x : Int) : 0 ≤ wrap64 (bits .and .u64 x 255) ∧ wrap64 (bits .and .u64 x 255) ≤ 255 := by
  have h : ∃ n : Nat, n ≤ 255 ∧ bits .and .u64 x 255 = n := by
    refine ⟨(BitVec.ofInt 64 x &&& BitVec.ofInt 64 255).toNat, ?_, ?_⟩
    · rw [BitVec.toNat_and]
      exact Nat.le_trans Nat.and_le_right (by decide)
    · have hle : (BitVec.ofInt 64 x &&& BitVec.ofInt 64 255).toNat ≤ 255 := by
        rw [BitVec.toNat_and]
        exact Nat.le_trans Nat.and_le_right (by decide)
      show IntKind.u64.wrap ((BitVec.ofInt 64 x &&& BitVec.ofInt 64 255).toNat : Int) = _
      rw [IntKind.wrap_u64]
      omega
  obtain ⟨n, hn, e⟩ := h
  rw [e]
  have : wrap64 (n : Int) = (n : Int) := by unfold wrap64; omega
  omega
/-- One byte more is taken. -/
theorem Cur.step {w : World} {g a : Nat} (h : Cur w g a) (x : Int) : Cur ((w.setCell ⟨g, 1, none⟩ (.int .i64 ((a : Int) + 1))).setCell ⟨g, 2, none⟩ (.int .u64 (IntKind.u64.wrap x))) g (a + 1) := by
  obtain ⟨A, L, cap, f, s, h0, h1, h2, h3, h4, h5, h6, h7, h8⟩ := h
  refine ⟨A, L, cap, f, IntKind.u64.wrap x, by simp [go_sem, h0, h1, h2], by simp [go_sem, h0, h1, h2], by simp [go_sem, h0, h1, h2], fun o => by simp [go_sem, h3], ?_, h5, h6, fun hL => ?_, by simp [World.setCell]; exact h8⟩
  · rw [IntKind.wrap_u64]; omega
  · obtain ⟨b, off, rfl, hne, hlt, hc⟩ := h7 hL
    refine ⟨b, off, rfl, hne, by simp [World.setCell]; exact hlt, fun i hi => ?_⟩
    have hb : ∀ v : World, ∀ o u, (v.setCell ⟨g, o, none⟩ u).heap[b]? = v.heap[b]? := fun v o u => Deep.blk_setCell_other _ _ _ _ (by show b ≠ g; omega)
    exact (World.cell?_of_block (a := ⟨b, off + i, none⟩) ((hb _ _ _).trans (hb _ _ _))).trans (hc i hi)
theorem Cur.only {w : World} {g a : Nat} (h : Cur w g a) (x y : Value) : Only g (g + 1) w ((w.setCell ⟨g, 1, none⟩ x).setCell ⟨g, 2, none⟩ y) :=
  ((Only.refl _ _ w).setCell (a := ⟨g, 1, none⟩) (Nat.le_refl _) (Nat.lt_succ_self _) _).setCell (a := ⟨g, 2, none⟩) (Nat.le_refl _) (Nat.lt_succ_self _) _
set_option maxRecDepth 100000 in
set_option maxHeartbeats 1600000 in
theorem next_any (g a : Nat) (w : World) (h : Cur w g a) (ha : a < 1099511627776) :
    Calls Try.prog 75 #[.pointer (some ⟨g, 0, none⟩)] w fun e w' => ∃ v : Int, e = .returned (.int .i64 v) ∧ (0 ≤ v ∧ v ≤ 255) ∧ Cur w' g (a + 1) ∧ Only g (g + 1) w w' := by
  have HH := hide h
  obtain ⟨A, L, cap, f, s, h0, h1, h2, h3, h4, h5, h6, h7, h8⟩ := h
  have H7 := hide h7
  have H6 := hide h6
  have hw1 : IntKind.i64.wrap ((a : Int) + 1) = (a : Int) + 1 := by rw [IntKind.wrap_i64]; omega
  by_cases haL : a < L
  · obtain ⟨b, off, rfl, hne, hlt, hc⟩ := h7 (by omega)
    have hca := hc a haL
    have hfa := h6 a haL
    have d1 : decide ((a : Int) < (L : Int)) = true := decide_eq_true (by omega)
    have d2 : decide ((a : Int) + 1 ≤ (L : Int)) = true := decide_eq_true (by omega)
    clear h7 h6 hc
    go_enter Try.func75, Try.ntmps75
    go_wp2_with fail
    go_quiet (fail)
    go_wp2_with fail
    go_quiet (fail)
    go_wp2_with fail
    go_quiet (fail)
    go_wp2_with fail
    go_ret
    exact ⟨_, rfl, hfa, HH.out.step _, ((((Only.refl _ _ w).drewN _).setCell (a := ⟨g, 1, none⟩) (Nat.le_refl _) (Nat.lt_succ_self _) _).setCell (a := ⟨g, 2, none⟩) (Nat.le_refl _) (Nat.lt_succ_self _) _).drewN _⟩
  · have d1 : decide ((a : Int) < (L : Int)) = false := decide_eq_false (by omega)
    have d2 : decide ((a : Int) + 1 ≤ (L : Int)) = false := decide_eq_false (by omega)
    clear h7 h6
    go_enter Try.func75, Try.ntmps75
    go_wp2_with fail
    go_quiet (fail)
    go_wp2_with fail
    go_quiet (fail)
    go_wp2_with fail
    go_ret
    exact ⟨_, rfl, and255 _, HH.out.step _, ((((Only.refl _ _ w).drewN _).setCell (a := ⟨g, 1, none⟩) (Nat.le_refl _) (Nat.lt_succ_self _) _).setCell (a := ⟨g, 2, none⟩) (Nat.le_refl _) (Nat.lt_succ_self _) _).drewN _⟩

end Go.Proofs.Yteoolhoncgaapaa
