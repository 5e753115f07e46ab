/-
  Plain words: the searched cells: what the program asks of a place is what the reference's list holds; lists of cells with numbers. No program in sight.
-/
import Derived.Test.YtpckhpkbdanjoaaDoorPNear
import Derived.Test.YtpckhpkbdanjoaaDoorPRow
namespace Go.Proofs.YtpckhpkbdanjoaaDoor
set_option linter.unusedVariables false
set_option linter.unusedSimpArgs false
open Go.RowKit

/-- A cell of a way is on a cell or next to it. -/
def nearB (x y p q : Int) : Bool := inB (p - x) (-1) 1 && inB (q - y) (-1) 1
def anyN (x y : Int) (p q : Nat → Int) (m : Nat) : Bool := decide (0 ≤ fstI (fun t => nearB x y (p t) (q t)) m)
theorem anyN_iff {x y : Int} {p q : Nat → Int} {m : Nat} : anyN x y p q m = true ↔ ∃ t, t < m ∧ nearB x y (p t) (q t) = true := by
  rw [anyN, decide_eq_true_eq]
  rcases fstI_cases (fun t => nearB x y (p t) (q t)) m with ⟨h1, h2⟩ | ⟨k, h1, h2, h3, _⟩
  · rw [h1]
    constructor
    · intro h; omega
    · rintro ⟨t, ht, h⟩
      have := h2 t ht
      rw [this] at h
      cases h
  · rw [h2]
    exact ⟨fun _ => ⟨k, h1, h3⟩, fun _ => by omega⟩
/-- What the program asks of the place with row x and column y. -/
def seT (F : Nat → ByteArray) (n : Nat) (p q : Nat → Int) (m x y : Nat) : Bool := opB F n x y && anyN x y p q m
theorem nr_se {F : Nat → ByteArray} {n m x y : Nat} {p q : Nat → Int} (hy : y < (F 0).size) : nrF F n p q m (x * (F 0).size + y) = seT F n p q m x y := by
  rw [Bool.eq_iff_iff, nrF_iff, seT, Bool.and_eq_true, anyN_iff]
  constructor
  · rintro ⟨s, hs, j, hj, k, hk, ho, e⟩
    obtain ⟨h1, h2, h3, h4⟩ := opP_bd (p := (_, _)) ho
    have e1 := ix_cast (p := (_, _)) ho
    rw [← e] at e1
    obtain ⟨e2, e3⟩ := ix_inj' (W := (F 0).size) (r' := (x : Int)) (c' := (y : Int)) h3 h4 (by omega) (by omega) (by rw [e1]; simp)
    refine ⟨by rw [← e2, ← e3]; exact ho, s, hs, ?_⟩
    simp only at e2 e3
    simp only [nearB, Bool.and_eq_true, inB_iff]
    omega
  · rintro ⟨ho, t, ht, hn⟩
    simp only [nearB, Bool.and_eq_true, inB_iff] at hn
    obtain ⟨⟨a1, a2⟩, a3, a4⟩ := hn
    have e1 : p t + (((x - p t + 1).toNat : Int) - 1) = x := by omega
    have e2 : q t + (((y - q t + 1).toNat : Int) - 1) = y := by omega
    refine ⟨t, ht, (x - p t + 1).toNat, by omega, (y - q t + 1).toNat, by omega, by rw [e1, e2]; exact ho, ?_⟩
    rw [e1, e2]
    have hh : (x : Int) * ((F 0).size : Int) + (y : Int) = (ixF F ((x : Int), (y : Int)) : Int) := ix_cast (p := ((x : Int), (y : Int))) ho
    have e3 : ((x * (F 0).size + y : Nat) : Int) = (ixF F ((x : Int), (y : Int)) : Int) := by rw [← hh]; push_cast; rfl
    exact Int.ofNat_inj.1 e3

/-- The cells with the numbers that pass. -/
def fltC (W : Nat) (P : Nat → Bool) : Nat → List Value
  | 0 => []
  | k + 1 => fltC W P k ++ if P k = true then [.int .i64 ((k : Int) / (W : Int)), .int .i64 ((k : Int) % (W : Int))] else []
theorem fltC_yes {W : Nat} {P : Nat → Bool} {k : Nat} (h : P k = true) : fltC W P (k + 1) = fltC W P k ++ [.int .i64 ((k : Int) / (W : Int)), .int .i64 ((k : Int) % (W : Int))] := by rw [fltC, if_pos h]
theorem fltC_no {W : Nat} {P : Nat → Bool} {k : Nat} (h : P k = false) : fltC W P (k + 1) = fltC W P k := by rw [fltC, h]; simp
theorem fltC_at {W : Nat} {P : Nat → Bool} {x y : Nat} (hy : y < W) (h : P (x * W + y) = true) : fltC W P (x * W + y + 1) = fltC W P (x * W + y) ++ [.int .i64 (x : Int), .int .i64 (y : Int)] := by
  rw [fltC_yes h]
  have hW : 0 < W := by omega
  have e1 : (((x * W + y : Nat) : Int) / (W : Int)) = (x : Int) := by
    rw [← Int.natCast_ediv]
    rw [Nat.mul_comm, Nat.mul_add_div hW, Nat.div_eq_of_lt hy]; rfl
  have e2 : (((x * W + y : Nat) : Int) % (W : Int)) = (y : Int) := by
    rw [← Int.natCast_emod, Nat.mul_comm, Nat.mul_add_mod, Nat.mod_eq_of_lt hy]
  rw [e1, e2]
theorem fltC_congr {W : Nat} {P Q : Nat → Bool} : ∀ {k : Nat}, (∀ i, i < k → P i = Q i) → fltC W P k = fltC W Q k
  | 0, _ => rfl
  | k + 1, h => by rw [fltC, fltC, fltC_congr fun i hi => h i (by omega), h k (by omega)]
def rI (W : Nat) (P : Nat → Bool) (N i : Nat) : Int := fltI P N i / (W : Int)
def cI (W : Nat) (P : Nat → Bool) (N i : Nat) : Int := fltI P N i % (W : Int)
theorem fltI_old {P : Nat → Bool} {k i : Nat} (hi : i < (flt P k).length) : fltI P (k + 1) i = fltI P k i := by
  rw [fltI, fltI, flt]
  congr 1
  simp only [List.getD]
  rw [List.getElem?_append_left hi]
theorem fltI_new {P : Nat → Bool} {k : Nat} (h : P k = true) : fltI P (k + 1) (flt P k).length = k := by
  rw [fltI, flt_yes h]
  simp [List.getD]
theorem fltC_row (W : Nat) (P : Nat → Bool) : ∀ n, fltC W P n = rowL (iiC (rI W P n) (cI W P n)) 2 (flt P n).length
  | 0 => rfl
  | k + 1 => by
    have hc : rowL (iiC (rI W P k) (cI W P k)) 2 (flt P k).length = rowL (iiC (rI W P (k + 1)) (cI W P (k + 1))) 2 (flt P k).length := rowL_congr fun i j hi _ => by
      simp only [iiC, rI, cI, fltI_old hi]
    by_cases h : P k = true
    · rw [fltC_yes h, fltC_row W P k, hc, flt_yes h, List.length_append]
      show _ = rowL _ 2 ((flt P k).length + 1)
      rw [rowL]
      congr 1
      have e : (List.range 2).map (iiC (rI W P (k + 1)) (cI W P (k + 1)) (flt P k).length) = [.int .i64 (rI W P (k + 1) (flt P k).length), .int .i64 (cI W P (k + 1) (flt P k).length)] := rfl
      rw [e, rI, cI, fltI_new h]
    · have h' : P k = false := by simpa using h
      rw [fltC_no h', fltC_row W P k, hc, flt_no h']
/-- The cells with the numbers of a list, one more. -/
theorem rowC_snoc (W : Nat) (P : Nat → Bool) (N t : Nat) : rowL (iiC (rI W P N) (cI W P N)) 2 (t + 1) = rowL (iiC (rI W P N) (cI W P N)) 2 t ++ [.int .i64 (fltI P N t / (W : Int)), .int .i64 (fltI P N t % (W : Int))] := by
  rw [rowL]
  congr 1
theorem fltI_lt {P : Nat → Bool} {N i : Nat} (hi : i < (flt P N).length) : 0 ≤ fltI P N i ∧ fltI P N i < N := by
  rw [fltI]
  have hm : (flt P N).getD i 0 ∈ flt P N := by
    simp only [List.getD]
    rw [List.getElem?_eq_getElem hi]
    exact List.getElem_mem hi
  have := (flt_mem hm).1
  omega

end Go.Proofs.YtpckhpkbdanjoaaDoor
