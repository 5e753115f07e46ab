/-
  Plain laws on cylinders that the drawn laws ask.
-/
import Derived.Test.YteoolhoncgaapaaWCyl4
namespace Go.Proofs.Yteoolhoncgaapaa
set_option linter.unusedVariables false
set_option linter.unusedSimpArgs false

section
variable {v b r a s : Int}
theorem time_spec (v b r a s : Int) : (0 ≤ timeF v b r a s → ∀ k : Nat, (k : Int) ≤ timeF v b r a s → okAt v b r a s k = true) ∧ (timeF v b r a s < 600 → okAt v b r a s (timeF v b r a s + 1).toNat = false) := by
  obtain ⟨h1, h2, h3⟩ := lead_spec (okAt v b r a s) 601
  have e : timeF v b r a s = (lead (okAt v b r a s) 601 : Nat) - 1 := rfl
  refine ⟨fun _ k hk => h2 k (by omega), fun h => ?_⟩
  have e2 : (timeF v b r a s + 1).toNat = lead (okAt v b r a s) 601 := by omega
  rw [e2]
  rcases h3 with h3 | h3
  · omega
  · exact h3
theorem late_facts (h : lateOk v b r a s = true) : askB v b r a s = true ∧ (0 ≤ a ∧ a ≤ 300) ∧ (0 ≤ lateN v b r a s ∧ lateN v b r a s ≤ 600) ∧ (barAfOk v b r (a + lateN v b r a s) = true → s ≤ barAfN v b r (a + lateN v b r a s)) ∧ mustB v b r a s = (lateN v b r a s == 0) := by
  simp only [lateOk, latOk, Bool.and_eq_true, decide_eq_true_eq] at h
  obtain ⟨ha, ht⟩ := h
  have hi := askB_iff.1 ha
  have hN : lateN v b r a s = timeF v b r a s := by rw [lateN, if_pos ha, latN, if_neg (by omega)]
  have hbd := timeF_bd v b r a s
  obtain ⟨h1, h2⟩ := time_spec v b r a s
  refine ⟨ha, by omega, by omega, fun h3 => ?_, ?_⟩
  · rw [hN] at h3 ⊢
    simp only [barAfOk, Bool.and_eq_true] at h3
    rw [barAfN, if_pos h3.1]
    have h4 := h1 ht (timeF v b r a s).toNat (by omega)
    simp only [okAt, Bool.and_eq_true, decide_eq_true_eq] at h4
    rw [show ((timeF v b r a s).toNat : Int) = timeF v b r a s by omega] at h4
    exact h4.2
  · rw [hN, mustB, ha]
    have e1 : (!aftOk v b (r * (a + 1)) || decide (aftN v b (r * (a + 1)) < s)) = !okAt v b r a s 1 := by
      show _ = !(aftOk v b (r * (a + 1)) && decide (s ≤ aftN v b (r * (a + 1))))
      rw [Bool.not_and, ← decide_not]
      congr 2
      exact propext (by omega)
    rw [e1]
    by_cases h0 : timeF v b r a s = 0
    · have := h2 (by omega)
      rw [h0] at this
      have e : ((0 : Int) + 1).toNat = 1 := rfl
      rw [e] at this
      simp [this, h0]
    · have := h1 ht 1 (by omega)
      simp [this, h0]
theorem late_none (ha : askB v b r a s = true) (h : lateOk v b r a s = false) : mustB v b r a s = true := by
  simp only [lateOk, ha, Bool.true_and, latOk, decide_eq_false_iff_not] at h
  obtain ⟨h1, h2⟩ := time_spec v b r a s
  have hbd := timeF_bd v b r a s
  have hi := askB_iff.1 ha
  have h3 := h2 (by omega)
  rw [show (timeF v b r a s + 1).toNat = 0 by omega] at h3
  have h4 : okAt v b r a s 1 = false := by
    cases h5 : okAt v b r a s 1 with
    | false => rfl
    | true =>
      rw [okAt_mono (by omega) (Nat.zero_le 1) h5] at h3
      cases h3
  rw [mustB, ha]
  have e1 : (!aftOk v b (r * (a + 1)) || decide (aftN v b (r * (a + 1)) < s)) = !okAt v b r a s 1 := by
    show _ = !(aftOk v b (r * (a + 1)) && decide (s ≤ aftN v b (r * (a + 1))))
    rw [Bool.not_and, ← decide_not]
    congr 2
    exact propext (by omega)
  rw [e1, h4]
  rfl
theorem min_facts (h : minB v b r s = true) : (0 ≤ minN v b r s ∧ minN v b r s ≤ 600) ∧ barAfOk v b r (minN v b r s) = true ∧ s ≤ barAfN v b r (minN v b r s) ∧ (minN v b r s < 600 → barAfOk v b r (minN v b r s + 1) = true → barAfN v b r (minN v b r s + 1) < s) := by
  have hi := minB_iff.1 h
  have hN : minN v b r s = timeF v b r 0 s := by rw [minN, if_pos h]
  have hbd := timeF_bd v b r 0 s
  obtain ⟨h1, h2⟩ := time_spec v b r 0 s
  have hl := lit_bd (v := v) (b := b) (by omega) (by omega) (by omega) (by omega)
  have h0 : 0 ≤ timeF v b r 0 s := by
    apply Int.not_lt.1
    intro hlt
    have h3 := h2 (by omega)
    rw [show (timeF v b r 0 s + 1).toNat = 0 by omega] at h3
    have h4 : okAt v b r 0 s 0 = true := by
      have e0 : r * (0 + ((0 : Nat) : Int)) = 0 := by simp
      simp only [okAt, e0, aftOk, Bool.and_eq_true, decide_eq_true_eq]
      refine ⟨by omega, ?_⟩
      rw [aftN_zero (by omega) (by omega)]
      omega
    rw [h4] at h3
    cases h3
  have hcy : cylB v b = true := cylB_iff.2 hi.1
  have hr : inB r 1 200 = true := inB_iff.2 hi.2.1
  have at_ : ∀ m : Int, 0 ≤ m → m ≤ 600 → barAfB v b r m = true := fun m h3 h4 => by
    rw [barAfB, hcy, hr, inB_iff.2 ⟨h3, h4⟩]
    rfl
  rw [hN]
  have h5 := h1 h0 (timeF v b r 0 s).toNat (by omega)
  simp only [okAt, Bool.and_eq_true, decide_eq_true_eq] at h5
  rw [show (0 + ((timeF v b r 0 s).toNat : Int)) = timeF v b r 0 s by omega] at h5
  refine ⟨by omega, ?_, ?_, fun hlt h6 => ?_⟩
  · rw [barAfOk, at_ _ (by omega) (by omega), h5.1]
    rfl
  · rw [barAfN, if_pos (at_ _ (by omega) (by omega))]
    exact h5.2
  · have h7 := h2 hlt
    simp only [barAfOk, Bool.and_eq_true] at h6
    rw [barAfN, if_pos h6.1]
    simp only [okAt, Bool.and_eq_false_iff, decide_eq_false_iff_not] at h7
    rw [show (0 + ((timeF v b r 0 s + 1).toNat : Int)) = timeF v b r 0 s + 1 by omega] at h7
    rcases h7 with h7 | h7
    · rw [h7] at h6
      cases h6.2
    · omega
theorem aft_facts (h : barAfOk v b r a = true) : cylB v b = true ∧ (1 ≤ r ∧ r ≤ 200) ∧ (0 ≤ a ∧ a ≤ 600) ∧ cylB v (barAfN v b r a) = true ∧ litInN v (barAfN v b r a) ≤ litInN v b - r * a ∧ barAfN v b r a ≤ b ∧ (0 ≤ litInN v b ∧ litInN v b ≤ 95100) := by
  simp only [barAfOk, barAfB, Bool.and_eq_true, aftOk, decide_eq_true_eq] at h
  obtain ⟨⟨⟨h1, h2⟩, h3⟩, h4⟩ := h
  have hB : barAfB v b r a = true := by rw [barAfB, h1, h2, h3]; rfl
  have i1 := cylB_iff.1 h1
  have i2 := inB_iff.1 h2
  have i3 := inB_iff.1 h3
  have hb := aftN_bd (v := v) (used := r * a) i1.2.1
  have hN : barAfN v b r a = aftN v b (r * a) := by rw [barAfN, if_pos hB]
  have hc : cylB v (aftN v b (r * a)) = true := cylB_iff.2 ⟨i1.1, by omega, by omega⟩
  have hl := lit_bd (v := v) (b := b) (by omega) (by omega) (by omega) (by omega)
  rw [hN]
  refine ⟨h1, i2, i3, hc, ?_, hb.2, ?_⟩
  · rw [litInN, litInN, if_pos hc, if_pos h1]
    exact aftN_lit h4
  · rw [litInN, if_pos h1]
    exact hl
end

end Go.Proofs.Yteoolhoncgaapaa
