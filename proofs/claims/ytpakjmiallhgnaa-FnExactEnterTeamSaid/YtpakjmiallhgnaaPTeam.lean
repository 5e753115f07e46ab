/-
  Plain laws on teams: the rate, the minute of turning, the state.
-/
import Derived.Test.YtpakjmiallhgnaaWRate
import Derived.Test.YtpakjmiallhgnaaWName
namespace Go.Proofs.Ytpakjmiallhgnaa
set_option linter.unusedVariables false
set_option linter.unusedSimpArgs false
open Go.RowKit

/-- A team: its name, volume, way, its checks. -/
structure Tm where
  s : ByteArray
  v : Int
  y : Int
  n : Nat
  m : Nat → Int
  b : Nat → Int
def tmB (T : Tm) : Bool := nameB T.s && inB T.v 10 3000 && inB T.y 0 300 && chkB T.m T.b T.n
def Tm.lm (T : Tm) : Int := T.m (T.n - 1)
def Tm.lb (T : Tm) : Int := T.b (T.n - 1)
def tmR (T : Tm) : Int := if T.n = 1 then 60 else min 200 (max 60 (wrF T.v T.m T.b T.n))
theorem tm_facts {T : Tm} (h : tmB T = true) : nameB T.s = true ∧ (10 ≤ T.v ∧ T.v ≤ 3000) ∧ (0 ≤ T.y ∧ T.y ≤ 300) ∧ (1 ≤ T.n ∧ T.n ≤ 20) ∧ (0 ≤ T.lm ∧ T.lm ≤ 600) ∧ 0 ≤ T.lb ∧ T.lb ≤ 330 := by
  simp only [tmB, Bool.and_eq_true, inB_iff] at h
  obtain ⟨⟨⟨h1, h2⟩, h3⟩, h4⟩ := h
  obtain ⟨h5, h6⟩ := chk_facts h4
  have h7 := h6 (T.n - 1) (by omega)
  exact ⟨h1, h2, h3, h5, h7.1, h7.2.1⟩
theorem tm_chk {T : Tm} (h : tmB T = true) : chkB T.m T.b T.n = true := by
  simp only [tmB, Bool.and_eq_true] at h
  exact h.2
theorem tmR_bd {T : Tm} : 60 ≤ tmR T ∧ tmR T ≤ 200 := by unfold tmR; split <;> omega
/-- The program's way to the rate. -/
theorem tmR_imp {T : Tm} (h : tmB T = true) : (if wrOk T.v T.m T.b T.n = false ∧ 1 < T.n then 200 else max 60 (wrN T.v T.m T.b T.n)) = tmR T := by
  obtain ⟨_, h2, _, h4, _⟩ := tm_facts h
  have h5 := wrF_bd h2.1 h2.2 (tm_chk h) T.n (Nat.le_refl _)
  unfold tmR wrN
  cases hw : wrOk T.v T.m T.b T.n with
  | true =>
    simp only [wrOk, Bool.and_eq_true, decide_eq_true_eq, inB_iff] at hw
    rw [if_neg (by simp), if_pos rfl, if_neg (by omega)]
    omega
  | false =>
    by_cases h1 : T.n = 1
    · rw [if_neg (by omega), if_pos h1, if_neg (by simp)]; rfl
    · rw [if_pos ⟨rfl, by omega⟩, if_neg h1]
      simp only [wrOk, Bool.and_eq_false_iff, decide_eq_false_iff_not, inB_no] at hw
      omega

def tmRateN (T : Tm) : Int := if tmB T = true then tmR T else 0
def preOk (T : Tm) (k : Int) : Bool := tmB T && inB k T.lm 600 && aftOk T.v T.lb (tmR T * (k - T.lm))
def preN (T : Tm) (k : Int) : Int := if (tmB T && inB k T.lm 600) = true then aftN T.v T.lb (tmR T * (k - T.lm)) else 0
theorem aftN_no {v b u : Int} (h : aftOk v b u = false) : aftN v b u = 0 := by
  simp only [aftOk, decide_eq_false_iff_not] at h
  rw [aftN, if_neg h]
/-- The minute at which it must turn. -/
def tmT (T : Tm) : Int := timeF T.v T.lb (tmR T) T.y 50
def tmTOk (T : Tm) : Bool := decide (0 ≤ tmT T)
def tmTN (T : Tm) : Int := if tmT T < 0 then 0 else T.lm + tmT T
def turnOk (T : Tm) : Bool := tmB T && tmTOk T
def turnNN (T : Tm) : Int := if tmB T = true then tmTN T else 0
theorem tmT_bd (T : Tm) : -1 ≤ tmT T ∧ tmT T ≤ 600 := timeF_bd _ _ _ _ _
theorem tmTN_bd {T : Tm} (h : tmB T = true) : 0 ≤ tmTN T ∧ tmTN T ≤ 1200 := by
  have h1 := tmT_bd T
  have h2 := (tm_facts h).2.2.2.2.1
  unfold tmTN
  split <;> omega

end Go.Proofs.Ytpakjmiallhgnaa
