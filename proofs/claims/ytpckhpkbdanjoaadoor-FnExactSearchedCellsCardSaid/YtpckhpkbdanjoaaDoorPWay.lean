/-
  Plain words: the way back: from a cell to the nearest neighbours of the other one, east before north before south before west. No program in sight.
-/
import Derived.Test.YtpckhpkbdanjoaaDoorPBfs
namespace Go.Proofs.YtpckhpkbdanjoaaDoor
set_option linter.unusedVariables false
set_option linter.unusedSimpArgs false

/-- The order in which directions are tried. -/
def ordD (j : Nat) : Nat := if j = 0 then 1 else if j = 1 then 0 else j
theorem ordD_lt {j : Nat} (h : j < 4) : ordD j < 4 := by unfold ordD; split <;> (try split) <;> omega
theorem ordD_ordD (j : Nat) : ordD (ordD j) = j := by unfold ordD; split <;> (try split) <;> (try split) <;> omega
/-- The number of steps left from p. -/
def lfF (F : Nat → ByteArray) (n : Nat) (b p : Int × Int) : Int := stF F n b (ixF F p)
/-- The j-th direction leads one step nearer. -/
def wbT (F : Nat → ByteArray) (n : Nat) (b p : Int × Int) (j : Nat) : Bool := opP F n (stp p (ordD j)) && decide (lfF F n b (stp p (ordD j)) = lfF F n b p - 1)
def wbJ (F : Nat → ByteArray) (n : Nat) (b p : Int × Int) : Nat := if wbT F n b p 0 = true then 0 else if wbT F n b p 1 = true then 1 else if wbT F n b p 2 = true then 2 else 3
def ltrB (d : Nat) : ByteArray := if d = 0 then ⟨#[110]⟩ else if d = 1 then ⟨#[101]⟩ else if d = 2 then ⟨#[115]⟩ else ⟨#[119]⟩
theorem ltrB_size (d : Nat) : (ltrB d).size = 1 := by unfold ltrB; split <;> (try split) <;> (try split) <;> rfl
/-- What is behind s when the way goes on from p, so many steps. -/
def wbG (F : Nat → ByteArray) (n : Nat) (b : Int × Int) : Nat → Int × Int → ByteArray → ByteArray
  | 0, _, s => s
  | k + 1, p, s => wbG F n b k (stp p (ordD (wbJ F n b p))) (s ++ ltrB (ordD (wbJ F n b p)))
section
variable {F : Nat → ByteArray} {n : Nat} {b p : Int × Int} {j k : Nat}
theorem wbJ_at (h : wbT F n b p j = true) (hj : j < 4) (hlt : ∀ i, i < j → wbT F n b p i = false) : wbJ F n b p = j := by
  have h4 : j = 0 ∨ j = 1 ∨ j = 2 ∨ j = 3 := by omega
  rcases h4 with rfl | rfl | rfl | rfl
  · simp [wbJ, h]
  · simp [wbJ, h, hlt 0 (by omega)]
  · simp [wbJ, h, hlt 0 (by omega), hlt 1 (by omega)]
  · simp [wbJ, hlt 0 (by omega), hlt 1 (by omega), hlt 2 (by omega)]
theorem wb_some (hb : opP F n b = true) (hp : opP F n p = true) (h : lfF F n b p = (k + 1 : Nat)) (hlt : ∀ i, i < 4 → wbT F n b p i = false) : False := by
  have h' : stF F n b (ixF F p) = (k + 1 : Nat) := h
  rcases stF_near hb hp (by rw [h']; omega) with rfl | ⟨_, d, hd, ho, hs⟩
  · rw [stF_zero hb] at h'
    omega
  · have h1 := hlt (ordD d) (ordD_lt hd)
    rw [wbT, ordD_ordD, ho] at h1
    have h2 : lfF F n b (stp p d) = lfF F n b p - 1 := by show stF F n b _ = stF F n b _ - 1; omega
    rw [decide_eq_true h2] at h1
    exact absurd h1 (by decide)
theorem wb_same (hb : opP F n b = true) (hp : opP F n p = true) (h : 0 ≤ lfF F n b p) : p = b ↔ lfF F n b p = 0 := by
  constructor
  · rintro rfl
    exact stF_zero hb
  · intro h0
    rcases stF_near hb hp h with e | ⟨h1, _⟩
    · exact e
    · have : stF F n b (ixF F p) = 0 := h0
      omega
theorem wbG_step {s : ByteArray} (h : wbT F n b p j = true) (hj : j < 4) (hlt : ∀ i, i < j → wbT F n b p i = false) : wbG F n b (k + 1) p s = wbG F n b k (stp p (ordD j)) (s ++ ltrB (ordD j)) := by
  rw [wbG, wbJ_at h hj hlt]
theorem wb_parts (h : wbT F n b p j = true) : opP F n (stp p (ordD j)) = true ∧ lfF F n b (stp p (ordD j)) = lfF F n b p - 1 := by
  simp only [wbT, Bool.and_eq_true, decide_eq_true_eq] at h
  exact h
theorem lf_bd (hb : opP F n b = true) (p : Int × Int) : -1 ≤ lfF F n b p ∧ lfF F n b p < (n * (F 0).size : Nat) := stF_bd hb _
end

end Go.Proofs.YtpckhpkbdanjoaaDoor
