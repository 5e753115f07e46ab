/-
  Walks: names in their strict order; the bounds of a plan.
-/
import Derived.Test.YtmonfljjdngfeaaWPer3
import Derived.Test.YtmonfljjdngfeaaPRow
namespace Go.Proofs.Ytmonfljjdngfeaa
set_option linter.unusedVariables false
set_option linter.unusedSimpArgs false
open Go.RowKit

def riP (c : Nat → ByteArray) (i : Nat) : Bool := decide (i = 0) || ltS (c (i - 1)) (c i)
def riB (c : Nat → ByteArray) (n : Nat) : Bool := allB (riP c) n
def naB (c : Nat → ByteArray) (n : Nat) : Bool := allB (fun i => nameB (c i)) n
def crP (c : Nat → ByteArray) (i : Nat) : Bool := nameB (c i) && riP c i
def crB (c : Nat → ByteArray) (n : Nat) : Bool := allB (crP c) n
theorem crB_eq (c : Nat → ByteArray) (n : Nat) : crB c n = (riB c n && naB c n) := by
  have : crB c n = true ↔ (riB c n && naB c n) = true := by
    rw [Bool.and_eq_true, crB, riB, naB, allB_iff, allB_iff, allB_iff]
    constructor
    · intro h
      exact ⟨fun i hi => (Bool.and_eq_true _ _ ▸ h i hi).2, fun i hi => (Bool.and_eq_true _ _ ▸ h i hi).1⟩
    · intro h i hi
      simp only [crP, Bool.and_eq_true]
      exact ⟨h.2 i hi, h.1 i hi⟩
  cases e : crB c n <;> cases e' : (riB c n && naB c n) <;> simp_all
theorem up_iff {x r k : Int} (hr : 0 < r) : k < upF x r ↔ k * r < x := by
  have h := Int.le_ediv_iff_mul_le (a := k + 1) (b := x + r - 1) (c := r) hr
  rw [Int.add_mul, Int.one_mul] at h
  unfold upF
  constructor
  · intro h1; have := h.1 (by omega); omega
  · intro h1; have := h.2 (by omega); omega
def plOk (c : Nat → ByteArray) (n : Nat) (p q r t : Int) : Bool := spanB p q r t && crB c n && decide ((n : Int) ≤ 8) && decide (lcN p q r t ≤ n) && decide (upF (q - p) r ≤ 12)
def plN (c : Nat → ByteArray) (n : Nat) (p q r t : Int) : Nat := if plOk c n p q r t = true then (upF (q - p) r).toNat else 0
def plC (c : Nat → ByteArray) (n : Nat) (i : Nat) : ByteArray := c (i % n)
def plA (p r : Int) (i : Nat) : Int := p + i * r
def plB (p q r : Int) (i : Nat) : Int := min (p + i * r + r) q
theorem plN_le {c : Nat → ByteArray} {n : Nat} {p q r t : Int} : plN c n p q r t ≤ 1048576 := by
  unfold plN
  split
  · rename_i h
    simp only [plOk, Bool.and_eq_true, decide_eq_true_eq] at h
    omega
  · omega
theorem pl_facts {c : Nat → ByteArray} {n : Nat} {p q r t : Int} (h : spanB p q r t = true) : (0 ≤ p ∧ p ≤ 9999) ∧ (0 ≤ q ∧ q ≤ 9999) ∧ p < q ∧ (1 ≤ r ∧ r ≤ 720) ∧ (0 ≤ t ∧ t ≤ 720) := by
  simp only [spanB, Bool.and_eq_true, inB_iff, decide_eq_true_eq] at h
  exact ⟨h.1.1.1.1, h.1.1.1.2, h.1.1.2, h.1.2, h.2⟩
theorem pl_least {p q r t : Int} (h : spanB p q r t = true) : 1 ≤ lcN p q r t ∧ 1 ≤ upF (q - p) r ∧ upF (q - p) r ≤ 9999 := by
  obtain ⟨h1, h2, h3, h4, h5⟩ := pl_facts (c := fun _ => ⟨#[]⟩) (n := 0) h
  have u1 := upF_bd (a := t) (d := r) (by omega) (by omega) (by omega)
  have u2 := upF_bd (a := q - p) (d := r) (by omega) (by omega) (by omega)
  have u3 := (up_iff (x := q - p) (r := r) (k := 0) (by omega)).2 (by omega)
  have u4 := up_iff (x := q - p) (r := r) (k := 9999) (by omega)
  unfold lcN
  refine ⟨by omega, by omega, ?_⟩
  rcases Int.lt_or_le 9999 (upF (q - p) r) with h6 | h6
  · have h7 := u4.1 h6
    have : (9999 : Int) ≤ 9999 * r := by omega
    omega
  · exact h6
/-- What the call hands back. -/
def PlRes (c : Nat → ByteArray) (n : Nat) (p q r t : Int) (ok : Bool) (w : World) (e : Ending) (w' : World) : Prop := ∃ v', e = .returned (.tuple #[v', .bool ok]) ∧ Own w' w.heap.size w'.heap.size 31 3 v' (plN c n p q r t) (plN c n p q r t) (siiC (plC c n) (plA p r) (plB p q r)) ∧ Below w.heap.size w w'
theorem pl_nil {c : Nat → ByteArray} {n : Nat} {p q r t : Int} {w w' : World} (h : plOk c n p q r t = false) (hb : Below w.heap.size w w') : PlRes c n p q r t false w (.returned (.tuple #[.slice none 0 0, .bool false])) w' :=
  ⟨_, rfl, by rw [plN, h]; exact Own.nil_ _ _ _ _ _ _, hb⟩
def plV (c : Nat → ByteArray) (n : Nat) (p q r : Int) : Nat → List Value := rowL (siiC (plC c n) (plA p r) (plB p q r)) 3
theorem plV_snoc (c : Nat → ByteArray) (n : Nat) (p q r : Int) (k : Nat) : plV c n p q r (k + 1) = plV c n p q r k ++ [.string (plC c n k), .int .i64 (plA p r k), .int .i64 (plB p q r k)] := rfl
theorem pl_at {p q r t : Int} {k : Nat} (h : spanB p q r t = true) : decide (p + k * r < q) = decide (k < (upF (q - p) r).toNat) := by
  obtain ⟨h1, h2, h3, h4, h5⟩ := pl_facts (c := fun _ => ⟨#[]⟩) (n := 0) h
  have u := up_iff (x := q - p) (r := r) (k := (k : Int)) (by omega)
  by_cases e : (k : Int) < upF (q - p) r
  · have := u.1 e
    rw [decide_eq_true (by omega), decide_eq_true (by omega)]
  · have : ¬ (k : Int) * r < q - p := fun h => e (u.2 h)
    rw [decide_eq_false (by omega), decide_eq_false (by omega)]
theorem three_one {x : ByteArray} {y z : Int} : ∀ u ∈ [Value.string x, .int .i64 y, .int .i64 z], u.oneCell' = true := by
  intro u hu
  simp at hu
  rcases hu with rfl | rfl | rfl <;> rfl

end Go.Proofs.Ytmonfljjdngfeaa
