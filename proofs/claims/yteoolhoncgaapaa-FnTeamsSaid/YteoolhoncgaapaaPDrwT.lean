/-
  Plain laws on teams' cylinders that the drawn law asks.
-/
import Derived.Test.YteoolhoncgaapaaWTeam
import Derived.Test.YteoolhoncgaapaaWRate
import Derived.Test.YteoolhoncgaapaaWRefill
namespace Go.Proofs.Yteoolhoncgaapaa
set_option linter.unusedVariables false
set_option linter.unusedSimpArgs false

theorem tb_facts (l : Nat → Int) : ∀ n : Nat, 0 < n → ∃ I : Nat, tbI l n = I ∧ I < n ∧ l I = tbL l n ∧ (∀ i, i < n → tbL l n ≤ l i) ∧ ∀ i, i < I → tbL l n < l i
  | 0, h => absurd h (Nat.lt_irrefl _)
  | 1, _ => by
    show ∃ I : Nat, tbI l (0 + 1) = I ∧ I < 0 + 1 ∧ l I = tbL l (0 + 1) ∧ (∀ i, i < 0 + 1 → tbL l (0 + 1) ≤ l i) ∧ ∀ i, i < I → tbL l (0 + 1) < l i
    obtain ⟨h1, h2⟩ := tb_yes (l := l) (k := 0) (.inl (by have := (tb_zero l).1; omega))
    refine ⟨0, h1, by omega, h2.symm, fun i hi => ?_, fun i hi => absurd hi (Nat.not_lt_zero _)⟩
    obtain rfl : i = 0 := by omega
    omega
  | n + 2, _ => by
    show ∃ I : Nat, tbI l (n + 1 + 1) = I ∧ I < n + 1 + 1 ∧ l I = tbL l (n + 1 + 1) ∧ (∀ i, i < n + 1 + 1 → tbL l (n + 1 + 1) ≤ l i) ∧ ∀ i, i < I → tbL l (n + 1 + 1) < l i
    obtain ⟨I, h1, h2, h3, h4, h5⟩ := tb_facts l (n + 1) (by omega)
    by_cases hl : l (n + 1) < tbL l (n + 1)
    · obtain ⟨e1, e2⟩ := tb_yes (l := l) (k := n + 1) (.inr hl)
      refine ⟨n + 1, e1, by omega, e2.symm, fun i hi => ?_, fun i hi => ?_⟩
      · rcases Nat.lt_succ_iff_lt_or_eq.1 hi with h | rfl
        · have := h4 i h
          omega
        · omega
      · have := h4 i hi
        omega
    · obtain ⟨e1, e2⟩ := tb_no (l := l) (k := n + 1) (by omega) hl
      refine ⟨I, e1.trans h1, by omega, h3.trans e2.symm, fun i hi => ?_, fun i hi => ?_⟩
      · rcases Nat.lt_succ_iff_lt_or_eq.1 hi with h | rfl
        · have := h4 i h
          omega
        · omega
      · have := h5 i hi
        omega
theorem team_facts {v b r : Nat → Int} {way res : Int} {n n' : Nat} (h : teamB v b r way res n n' = true) : n = n' ∧ (2 ≤ n ∧ n ≤ 4) ∧ ∃ I : Nat, teamI v b r way res n n' = I ∧ I < n ∧
    ∀ i, i < n → lateOk (v i) (b i) (r i) way res = true ∧ teamL v b r way res n n' ≤ lateN (v i) (b i) (r i) way res ∧ (i < I → teamL v b r way res n n' < lateN (v i) (b i) (r i) way res) ∧ (i = I → lateN (v i) (b i) (r i) way res = teamL v b r way res n n') := by
  obtain ⟨e1, e2⟩ := team_yes h
  simp only [teamB, Bool.and_eq_true, inB_iff, decide_eq_true_eq, allB_iff] at h
  obtain ⟨⟨h1, h2⟩, h3⟩ := h
  obtain ⟨I, g1, g2, g3, g4, g5⟩ := tb_facts (tmN v b r way res) n (by omega)
  refine ⟨h2, by omega, I, e1.trans g1, g2, fun i hi => ⟨h3 i hi, ?_, fun hI => ?_, fun hI => ?_⟩⟩
  · rw [e2]
    exact g4 i hi
  · rw [e2]
    exact g5 i hI
  · rw [e2, hI]
    exact g3
theorem upF_ge {a d : Int} (ha : 0 ≤ a) (hd : 1 ≤ d) : a ≤ upF a d * d := by
  unfold upF
  have h := Int.emod_add_mul_ediv (a + d - 1) d
  have h2 := Int.emod_lt_of_pos (a + d - 1) (show 0 < d by omega)
  rw [Int.mul_comm d] at h
  omega
theorem wr_ge {x : Int} {m b : Nat → Int} {i : Nat} (h0 : 0 < i) : ∀ n, i < n → upF (lit x (b (i - 1)) - lit x (b i)) (m i - m (i - 1)) ≤ wrF x m b n
  | 0, h => absurd h (Nat.not_lt_zero _)
  | n + 1, h => by
    rw [wrF_succ (by omega)]
    rcases Nat.lt_succ_iff_lt_or_eq.1 h with h1 | rfl
    · have := wr_ge (x := x) (m := m) (b := b) h0 n h1
      omega
    · omega
theorem worst_facts {x : Int} {m b : Nat → Int} {n : Nat} (h : worstOk x m b n = true) : chkB m b n = true ∧ (1 ≤ n ∧ n ≤ 20) ∧ (1 ≤ worstN x m b n ∧ worstN x m b n ≤ 200) ∧ ∀ i, 0 < i → i < n →
    cylB x (b (i - 1)) = true ∧ cylB x (b i) = true ∧ (1 ≤ m i - m (i - 1) ∧ m i - m (i - 1) ≤ 600) ∧ (0 ≤ litInN x (b (i - 1)) ∧ litInN x (b (i - 1)) ≤ 95100) ∧ (0 ≤ litInN x (b i) ∧ litInN x (b i) ≤ 95100) ∧ litInN x (b (i - 1)) - litInN x (b i) ≤ worstN x m b n * (m i - m (i - 1)) := by
  have hN : worstN x m b n = wrF x m b n := by rw [worstN, if_pos h]
  simp only [worstOk, wrOk, Bool.and_eq_true, inB_iff, decide_eq_true_eq] at h
  obtain ⟨⟨h1, h2⟩, h3, h4⟩ := h
  obtain ⟨c1, c2⟩ := chk_facts h2
  refine ⟨h2, c1, by omega, fun i h0 hi => ?_⟩
  have a1 := c2 i hi
  have a2 := c2 (i - 1) (by omega)
  have y1 : cylB x (b (i - 1)) = true := cylB_iff.2 ⟨h1, a2.2.1⟩
  have y2 : cylB x (b i) = true := cylB_iff.2 ⟨h1, a1.2.1⟩
  have l1 := lit_bd (v := x) (by omega) h1.2 a1.2.1.1 a1.2.1.2
  have l2 := lit_bd (v := x) (by omega) h1.2 a2.2.1.1 a2.2.1.2
  obtain ⟨s1, s2⟩ := wr_step h1.1 h1.2 h2 hi h0
  rw [litInN, litInN, if_pos y1, if_pos y2, hN]
  refine ⟨y1, y2, s2, l2, l1, ?_⟩
  have g1 := upF_ge s1.1 s2.1
  have g2 := wr_ge (x := x) (m := m) (b := b) h0 n hi
  have g3 := Int.mul_le_mul_of_nonneg_right g2 (show 0 ≤ m i - m (i - 1) by omega)
  omega
theorem turn_facts {s t r : Int} (h : turnB s t r = true) : turnN s t r ≤ t ∧ r ≤ turnN s t r ∧ s - t + r = turnN s t r ∧ (0 ≤ s ∧ s ≤ 330) ∧ (0 ≤ t ∧ t ≤ s) ∧ 0 ≤ r ∧ r ≤ 100 := by
  have hN : turnN s t r = s - t + r := by rw [turnN, if_pos h]
  simp only [turnB, Bool.and_eq_true, inB_iff, decide_eq_true_eq] at h
  omega
theorem ref_facts {V B : Int} {v b : Nat → Int} {n : Nat} {bar : Int} (h : refOk V B v b n bar = true) : ∃ k : Nat, refC V B v b n bar = k ∧ k ≤ n ∧ n ≤ 10 ∧ refV V B v b n bar = V ∧ refP V B v b n bar ≤ B ∧ (refP V B v b n bar = B ∨ bar ≤ refP V B v b n bar) ∧ (k < n → b k < bar) := by
  have h0 := h
  simp only [refOk, Bool.and_eq_true, inB_iff, decide_eq_true_eq] at h
  obtain ⟨⟨⟨h1, h2⟩, _⟩, _⟩ := h
  have i1 := cylB_iff.1 h1
  obtain ⟨g1, g2, g3⟩ := lead_spec (rfOk V v b bar B) n
  refine ⟨lead (rfOk V v b bar B) n, by rw [refC, if_pos h0], g1, by omega, by rw [refV, if_pos h0], ?_, ?_, fun hk => ?_⟩
  · rw [refP, if_pos h0]
    exact (rfB_bd i1.2.1 i1.2.2 _).2
  · rw [refP, if_pos h0]
    have key : ∀ k, k ≤ lead (rfOk V v b bar B) n → rfB V v b bar B k = B ∨ bar ≤ rfB V v b bar B k := by
      intro k
      induction k with
      | zero => exact fun _ => .inl rfl
      | succ k ih =>
        intro hk
        have ho := g2 k (by omega)
        by_cases hb : b k < bar
        · right
          rw [rfB_step hb]
          simp only [rfOk, decide_eq_true hb, Bool.not_true, Bool.false_or, Bool.and_eq_true, Bool.not_eq_true', decide_eq_false_iff_not] at ho
          omega
        · rw [rfB_stay hb]
          exact ih (by omega)
    exact key _ (Nat.le_refl _)
  · rcases g3 with g3 | g3
    · omega
    · simp only [rfOk, Bool.or_eq_false_iff, Bool.not_eq_false', decide_eq_true_eq] at g3
      exact g3.1

end Go.Proofs.Yteoolhoncgaapaa
