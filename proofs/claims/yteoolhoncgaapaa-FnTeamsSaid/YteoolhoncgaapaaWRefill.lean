/-
  Walks: filling cylinders from a bank.
-/
import Derived.Test.YteoolhoncgaapaaWCyl4
import Derived.Test.YteoolhoncgaapaaCells
import Derived.Test.YteoolhoncgaapaaPList
namespace Go.Proofs.Yteoolhoncgaapaa
set_option linter.unusedVariables false
set_option linter.unusedSimpArgs false
open Go.RowKit

/-- The bank's pressure behind the first k cylinders, if none of them stopped the work. -/
def rfB (V : Int) (v b : Nat → Int) (bar B : Int) : Nat → Int
  | 0 => B
  | k + 1 => if b k < bar then aftN V (rfB V v b bar B k) (lit (v k) bar - lit (v k) (b k)) else rfB V v b bar B k
def rfOk (V : Int) (v b : Nat → Int) (bar B : Int) (k : Nat) : Bool :=
  !decide (b k < bar) || (aftOk V (rfB V v b bar B k) (lit (v k) bar - lit (v k) (b k)) && !decide (aftN V (rfB V v b bar B k) (lit (v k) bar - lit (v k) (b k)) < bar))
def cyl1 (v b : Nat → Int) (i : Nat) : Bool := cylB (v i) (b i)
def refOk (V B : Int) (v b : Nat → Int) (n : Nat) (bar : Int) : Bool := cylB V B && decide (n ≤ 10) && allB (cyl1 v b) n && inB bar 1 330
def refC (V B : Int) (v b : Nat → Int) (n : Nat) (bar : Int) : Int := if refOk V B v b n bar = true then (lead (rfOk V v b bar B) n : Nat) else 0
def refV (V B : Int) (v b : Nat → Int) (n : Nat) (bar : Int) : Int := if refOk V B v b n bar = true then V else 0
def refP (V B : Int) (v b : Nat → Int) (n : Nat) (bar : Int) : Int := if refOk V B v b n bar = true then rfB V v b bar B (lead (rfOk V v b bar B) n) else 0
theorem ref_no {V B : Int} {v b : Nat → Int} {n : Nat} {bar : Int} (h : refOk V B v b n bar = false) : refC V B v b n bar = 0 ∧ refV V B v b n bar = 0 ∧ refP V B v b n bar = 0 := by
  simp [refC, refV, refP, h]
theorem ref_yes {V B : Int} {v b : Nat → Int} {n k : Nat} {bar : Int} (h : refOk V B v b n bar = true) (hk : k ≤ n) (hj : ∀ j, j < k → rfOk V v b bar B j = true) (he : k = n ∨ rfOk V v b bar B k = false) :
    refC V B v b n bar = k ∧ refV V B v b n bar = V ∧ refP V B v b n bar = rfB V v b bar B k := by
  have := lead_eq (g := rfOk V v b bar B) hk hj he
  simp [refC, refV, refP, h, this]
theorem rfB_bd {V : Int} {v b : Nat → Int} {bar B : Int} (h0 : 0 ≤ B) (h1 : B ≤ 330) : ∀ k, 0 ≤ rfB V v b bar B k ∧ rfB V v b bar B k ≤ B
  | 0 => by simp [rfB]; exact h0
  | k + 1 => by
    have h := rfB_bd (V := V) (v := v) (b := b) (bar := bar) h0 h1 k
    unfold rfB
    split
    · have h2 := aftN_bd (v := V) (b := rfB V v b bar B k) (used := lit (v k) bar - lit (v k) (b k)) h.1
      omega
    · exact h
theorem rfB_step {V : Int} {v b : Nat → Int} {bar B : Int} {k : Nat} (h : b k < bar) : rfB V v b bar B (k + 1) = aftN V (rfB V v b bar B k) (lit (v k) bar - lit (v k) (b k)) := by rw [rfB, if_pos h]
theorem rfB_stay {V : Int} {v b : Nat → Int} {bar B : Int} {k : Nat} (h : ¬ b k < bar) : rfB V v b bar B (k + 1) = rfB V v b bar B k := by rw [rfB, if_neg h]
theorem rf_used {x y bar : Int} (hv : 10 ≤ x) (hv' : x ≤ 3000) (h0 : 0 ≤ y) (h1 : y ≤ 330) (hb : 1 ≤ bar) (hb' : bar ≤ 330) (h : y < bar) : 0 ≤ lit x bar - lit x y ∧ lit x bar - lit x y ≤ 95100 := by
  have l1 := lit_bd (v := x) (by omega) hv' h0 h1
  have l2 := lit_bd (v := x) (b := bar) (by omega) hv' (by omega) hb'
  have l3 := lit_mono (v := x) (a := y) (b := bar) (by omega) (by omega)
  omega

set_option maxHeartbeats 400000 in
theorem RefillsFrom1_any (v b : Int) (w : World) :
    Calls Try.prog 45 #[.agg #[.int .i64 v, .int .i64 b]] w fun e w' => e = .returned (.bool (!cylB v b)) ∧ Below w.heap.size w w' := by
  go_enter Try.func45, Try.ntmps45
  go_wp2_with (go_at_call 43; refine (isCylinder_any _ _ _).mono ?_; rintro e w1 ⟨rfl, hb1⟩; have hz1 := hb1.size; (try (simp at hz1)); obtain ⟨hcw1, hfw1⟩ := bcell hb1; (try (have hy1 : w.heap.size < w1.heap.size := by omega)); (try (have hyy1 : w.heap.size + 1 < w1.heap.size := by omega)); (try (have hyyy1 : w.heap.size + 1 + 1 < w1.heap.size := by omega)))
  go_ret
  exact ⟨rfl, (by repeat (first | (with_reducible exact Below.refl _ _) | (with_reducible refine below_ov ?_ ?_) | (with_reducible refine Below.setCell ?_ ?_ _) | (with_reducible refine Below.alloc ?_ ?_ _) | (with_reducible refine Below.drew ?_) | (with_reducible refine below_drewN ?_ _) | (refine Below.trans ?_ (Below.mono ‹Below _ _ _› (by first | omega | (simp; done) | (simp; omega)))) | exact Below.refl _ _ | omega | (focus (simp; done)) | (focus (simp; omega))))⟩
set_option maxRecDepth 100000 in
set_option maxHeartbeats 1600000 in
theorem IndexFuncC_any (v b : Nat → Int) (n lo hi : Nat) (x : Value) (w : World) (hx : Sl w lo hi 2 x n (iiC v b)) (hhi : hi ≤ w.heap.size) (hn : n ≤ 4611686018427387904) :
    Calls Try.prog 74 #[x, .func (.func 45) #[] #[]] w fun e w' => e = .returned (.int .i64 (fstI (fun i => !cylB (v i) (b i)) n)) ∧ Below w.heap.size w w' := by
  obtain ⟨A, cap, rfl, hcap, hA⟩ := hx.open_
  clear hx
  go_enter Try.func74, Try.ntmps74
  go_wp2_with fail
  go_loopw [8] (fun i wr => ∃ k : Nat, k ≤ n ∧ i = .int .i64 k ∧ Hid (∀ j, j < k → (!cylB (v j) (b j)) = false) ∧ Below w.heap.size w wr) (fun i _ => n - (intOf i).toNat)
  case atStart => exact ⟨0, by omega, rfl, fun j hj => by omega, Below.refl _ _⟩
  case round =>
    obtain ⟨k, hk, rfl, hj, hb⟩ := hrel
    have hzr := hb.size
    by_cases hkn : k < n
    · obtain ⟨blk, off, rfl, h1, h2, h3⟩ := (hA.below hb (by omega)) (by omega)
      have c0 : wr.cell? ⟨blk, off + k * 2, none⟩ = some (.int .i64 (v k)) := h3 k 0 hkn (by omega)
      have c1 : wr.cell? ⟨blk, off + k * 2 + 1, none⟩ = some (.int .i64 (b k)) := h3 k 1 hkn (by omega)
      clear h3 hA
      cases e1 : cylB (v k) (b k) with
      | true =>
        have HG : Hid ((!cylB (v k) (b k)) = false) := by show _ = _; rw [e1]; rfl
        go_wp2_with (go_at_call 45; refine (RefillsFrom1_any _ _ _).mono ?_; rintro e w1 ⟨rfl, hb1⟩; have hz1 := hb1.size; (try (simp at hz1)); obtain ⟨hcw1, hfw1⟩ := bcell hb1; (try (have hy1 : w.heap.size < w1.heap.size := by omega)); (try (have hyy1 : w.heap.size + 1 < w1.heap.size := by omega)); (try (have hyyy1 : w.heap.size + 1 + 1 < w1.heap.size := by omega)))
        go_roundw
        case rel => exact ⟨k + 1, by omega, by go_num, upto_snocF (p := fun j => !cylB (v j) (b j)) hj.out HG.out, (by repeat (first | (with_reducible exact Below.refl _ _) | (with_reducible refine below_ov ?_ ?_) | (with_reducible refine Below.setCell ?_ ?_ _) | (with_reducible refine Below.alloc ?_ ?_ _) | (with_reducible refine Below.drew ?_) | (with_reducible refine below_drewN ?_ _) | (refine Below.trans ?_ (Below.mono ‹Below _ _ _› (by first | omega | (simp; done) | (simp; omega)))) | exact Below.refl _ _ | omega | (focus (simp; done)) | (focus (simp; omega))))⟩
        case measure => simp [intOf]; omega
      | false =>
        have HG : Hid (fstI (fun i => !cylB (v i) (b i)) n = k) := fstI_at hkn hj.out (by rw [e1]; rfl)
        go_wp2_with (go_at_call 45; refine (RefillsFrom1_any _ _ _).mono ?_; rintro e w1 ⟨rfl, hb1⟩; have hz1 := hb1.size; (try (simp at hz1)); obtain ⟨hcw1, hfw1⟩ := bcell hb1; (try (have hy1 : w.heap.size < w1.heap.size := by omega)); (try (have hyy1 : w.heap.size + 1 < w1.heap.size := by omega)); (try (have hyyy1 : w.heap.size + 1 + 1 < w1.heap.size := by omega)))
        go_ret
        exact ⟨ret_int HG.out.symm, (by repeat (first | (with_reducible exact Below.refl _ _) | (with_reducible refine below_ov ?_ ?_) | (with_reducible refine Below.setCell ?_ ?_ _) | (with_reducible refine Below.alloc ?_ ?_ _) | (with_reducible refine Below.drew ?_) | (with_reducible refine below_drewN ?_ _) | (refine Below.trans ?_ (Below.mono ‹Below _ _ _› (by first | omega | (simp; done) | (simp; omega)))) | exact Below.refl _ _ | omega | (focus (simp; done)) | (focus (simp; omega))))⟩
    · obtain rfl : k = n := by omega
      go_wp2_with fail
      go_ret
      exact ⟨ret_int (fstI_none hj.out).symm, hb⟩
set_option maxRecDepth 100000 in
set_option maxHeartbeats 1600000 in
theorem ContainsFuncC_any (v b : Nat → Int) (n lo hi : Nat) (x : Value) (w : World) (hx : Sl w lo hi 2 x n (iiC v b)) (hhi : hi ≤ w.heap.size) (hn : n ≤ 4611686018427387904) :
    Calls Try.prog 44 #[x, .func (.func 45) #[] #[]] w fun e w' => e = .returned (.bool (!allB (cyl1 v b) n)) ∧ Below w.heap.size w w' := by
  have HE : Hid (decide (0 ≤ fstI (fun i => !cylB (v i) (b i)) n) = !allB (cyl1 v b) n) := by
    show _ = _
    rw [fstI_neg]
    congr 2
    funext i
    simp [cyl1]
  go_enter Try.func44, Try.ntmps44
  go_wp2_with (go_at_call 74; refine (IndexFuncC_any v b n lo hi _ _ hx hhi hn).mono ?_; rintro e w1 ⟨rfl, hb1⟩; have hz1 := hb1.size; (try (simp at hz1)); obtain ⟨hcw1, hfw1⟩ := bcell hb1; (try (have hy1 : w.heap.size < w1.heap.size := by omega)); (try (have hyy1 : w.heap.size + 1 < w1.heap.size := by omega)); (try (have hyyy1 : w.heap.size + 1 + 1 < w1.heap.size := by omega)))
  go_ret
  exact ⟨ret_bool HE.out, (by repeat (first | (with_reducible exact Below.refl _ _) | (with_reducible refine below_ov ?_ ?_) | (with_reducible refine Below.setCell ?_ ?_ _) | (with_reducible refine Below.alloc ?_ ?_ _) | (with_reducible refine Below.drew ?_) | (with_reducible refine below_drewN ?_ _) | (refine Below.trans ?_ (Below.mono ‹Below _ _ _› (by first | omega | (simp; done) | (simp; omega)))) | exact Below.refl _ _ | omega | (focus (simp; done)) | (focus (simp; omega))))⟩
def refOk1 (V B : Int) (v b : Nat → Int) (n : Nat) (bar : Int) : Bool := cylB V B && decide (n ≤ 10) && allB (cyl1 v b) n
set_option maxRecDepth 100000 in
set_option maxHeartbeats 1600000 in
theorem RefillsFrom_impl (V B : Int) (v b : Nat → Int) (n : Nat) (bar : Int) (lo hi : Nat) (x : Value) (w : World) (hx : Sl w lo hi 2 x n (iiC v b)) (hhi : hi ≤ w.heap.size) (hn : n ≤ 4611686018427387904) :
    Calls Try.prog 10 #[.agg #[.int .i64 V, .int .i64 B], x, .int .i64 bar] w fun e w' => e = .returned (.tuple #[.int .i64 (refC V B v b n bar), .agg #[.int .i64 (refV V B v b n bar), .int .i64 (refP V B v b n bar)], .bool (refOk V B v b n bar)]) ∧ Below w.heap.size w w' := by
  obtain ⟨A, cap, rfl, hcap, hA⟩ := hx.open_
  cases hc1_0 : cylB V B with
  | false =>
    have HF : Hid (refOk V B v b n bar = false) := by
      show refOk V B v b n bar = false
      simp only [refOk, Bool.and_eq_false_iff, decide_eq_false_iff_not]
      first | (left; left; left; assumption) | (left; left; right; have := of_decide_eq_false ‹decide ((n : Int) ≤ 10) = false›; omega) | (left; right; assumption) | (right; assumption)
    have HR := hide (ref_no HF.out)
    go_enter Try.func10, Try.ntmps10
    go_wp2_with (first | (go_at_call 43; refine (isCylinder_any _ _ _).mono ?_; rintro e w1 ⟨rfl, hb1⟩; have hz1 := hb1.size; (try (simp at hz1)); obtain ⟨hcw1, hfw1⟩ := bcell hb1; (try (have hy1 : w.heap.size < w1.heap.size := by omega)); (try (have hyy1 : w.heap.size + 1 < w1.heap.size := by omega)); (try (have hyyy1 : w.heap.size + 1 + 1 < w1.heap.size := by omega))) | (go_at_call 44; refine (ContainsFuncC_any v b n lo hi _ _ (hx.below (B := w.heap.size) (by repeat (first | (with_reducible exact Below.refl _ _) | (with_reducible refine below_ov ?_ ?_) | (with_reducible refine Below.setCell ?_ ?_ _) | (with_reducible refine Below.alloc ?_ ?_ _) | (with_reducible refine Below.drew ?_) | (with_reducible refine below_drewN ?_ _) | (refine Below.trans ?_ (Below.mono ‹Below _ _ _› (by first | omega | (simp; done) | (simp; omega)))) | exact Below.refl _ _ | omega | (focus (simp; done)) | (focus (simp; omega)))) hhi) (by first | omega | (simp; done) | (simp; omega)) hn).mono ?_; rintro e w2 ⟨rfl, hb2⟩; have hz2 := hb2.size; (try (simp at hz2)); obtain ⟨hcw2, hfw2⟩ := bcell hb2; (try (have hy2 : w.heap.size < w2.heap.size := by omega)); (try (have hyy2 : w.heap.size + 1 < w2.heap.size := by omega)); (try (have hyyy2 : w.heap.size + 1 + 1 < w2.heap.size := by omega))) | (go_at_call 46; refine (inside_any _ _ _ _).mono ?_; rintro e w' ⟨rfl, rfl⟩))
    obtain ⟨b1, b2, b3⟩ := HR.out
    rw [b1, b2, b3, HF.out]
    exact bodyPost_ret (v := .tuple #[.int .i64 0, .agg #[.int .i64 0, .int .i64 0], .bool false]) (by simp [results, Try.results10, go_sem, *]) rfl ⟨rfl, (by repeat (first | (with_reducible exact Below.refl _ _) | (with_reducible refine below_ov ?_ ?_) | (with_reducible refine Below.setCell ?_ ?_ _) | (with_reducible refine Below.alloc ?_ ?_ _) | (with_reducible refine Below.drew ?_) | (with_reducible refine below_drewN ?_ _) | (refine Below.trans ?_ (Below.mono ‹Below _ _ _› (by first | omega | (simp; done) | (simp; omega)))) | exact Below.refl _ _ | omega | (focus (simp; done)) | (focus (simp; omega))))⟩
  | true =>
    obtain ⟨⟨hc1_0l, hc1_0r⟩, hc1_0s, hc1_0t⟩ := cylB_iff.1 hc1_0
    cases hc1_1 : decide ((n : Int) ≤ 10) with
    | false =>
      have hc1_1l := of_decide_eq_false hc1_1
      have HF : Hid (refOk V B v b n bar = false) := by
        show refOk V B v b n bar = false
        simp only [refOk, Bool.and_eq_false_iff, decide_eq_false_iff_not]
        first | (left; left; left; assumption) | (left; left; right; have := of_decide_eq_false ‹decide ((n : Int) ≤ 10) = false›; omega) | (left; right; assumption) | (right; assumption)
      have HR := hide (ref_no HF.out)
      go_enter Try.func10, Try.ntmps10
      go_wp2_with (first | (go_at_call 43; refine (isCylinder_any _ _ _).mono ?_; rintro e w1 ⟨rfl, hb1⟩; have hz1 := hb1.size; (try (simp at hz1)); obtain ⟨hcw1, hfw1⟩ := bcell hb1; (try (have hy1 : w.heap.size < w1.heap.size := by omega)); (try (have hyy1 : w.heap.size + 1 < w1.heap.size := by omega)); (try (have hyyy1 : w.heap.size + 1 + 1 < w1.heap.size := by omega))) | (go_at_call 44; refine (ContainsFuncC_any v b n lo hi _ _ (hx.below (B := w.heap.size) (by repeat (first | (with_reducible exact Below.refl _ _) | (with_reducible refine below_ov ?_ ?_) | (with_reducible refine Below.setCell ?_ ?_ _) | (with_reducible refine Below.alloc ?_ ?_ _) | (with_reducible refine Below.drew ?_) | (with_reducible refine below_drewN ?_ _) | (refine Below.trans ?_ (Below.mono ‹Below _ _ _› (by first | omega | (simp; done) | (simp; omega)))) | exact Below.refl _ _ | omega | (focus (simp; done)) | (focus (simp; omega)))) hhi) (by first | omega | (simp; done) | (simp; omega)) hn).mono ?_; rintro e w2 ⟨rfl, hb2⟩; have hz2 := hb2.size; (try (simp at hz2)); obtain ⟨hcw2, hfw2⟩ := bcell hb2; (try (have hy2 : w.heap.size < w2.heap.size := by omega)); (try (have hyy2 : w.heap.size + 1 < w2.heap.size := by omega)); (try (have hyyy2 : w.heap.size + 1 + 1 < w2.heap.size := by omega))) | (go_at_call 46; refine (inside_any _ _ _ _).mono ?_; rintro e w' ⟨rfl, rfl⟩))
      obtain ⟨b1, b2, b3⟩ := HR.out
      rw [b1, b2, b3, HF.out]
      exact bodyPost_ret (v := .tuple #[.int .i64 0, .agg #[.int .i64 0, .int .i64 0], .bool false]) (by simp [results, Try.results10, go_sem, *]) rfl ⟨rfl, (by repeat (first | (with_reducible exact Below.refl _ _) | (with_reducible refine below_ov ?_ ?_) | (with_reducible refine Below.setCell ?_ ?_ _) | (with_reducible refine Below.alloc ?_ ?_ _) | (with_reducible refine Below.drew ?_) | (with_reducible refine below_drewN ?_ _) | (refine Below.trans ?_ (Below.mono ‹Below _ _ _› (by first | omega | (simp; done) | (simp; omega)))) | exact Below.refl _ _ | omega | (focus (simp; done)) | (focus (simp; omega))))⟩
    | true =>
      have hc1_1l := of_decide_eq_true hc1_1
      cases hc1_2 : allB (cyl1 v b) n with
      | false =>
        have HF : Hid (refOk V B v b n bar = false) := by
          show refOk V B v b n bar = false
          simp only [refOk, Bool.and_eq_false_iff, decide_eq_false_iff_not]
          first | (left; left; left; assumption) | (left; left; right; have := of_decide_eq_false ‹decide ((n : Int) ≤ 10) = false›; omega) | (left; right; assumption) | (right; assumption)
        have HR := hide (ref_no HF.out)
        go_enter Try.func10, Try.ntmps10
        go_wp2_with (first | (go_at_call 43; refine (isCylinder_any _ _ _).mono ?_; rintro e w1 ⟨rfl, hb1⟩; have hz1 := hb1.size; (try (simp at hz1)); obtain ⟨hcw1, hfw1⟩ := bcell hb1; (try (have hy1 : w.heap.size < w1.heap.size := by omega)); (try (have hyy1 : w.heap.size + 1 < w1.heap.size := by omega)); (try (have hyyy1 : w.heap.size + 1 + 1 < w1.heap.size := by omega))) | (go_at_call 44; refine (ContainsFuncC_any v b n lo hi _ _ (hx.below (B := w.heap.size) (by repeat (first | (with_reducible exact Below.refl _ _) | (with_reducible refine below_ov ?_ ?_) | (with_reducible refine Below.setCell ?_ ?_ _) | (with_reducible refine Below.alloc ?_ ?_ _) | (with_reducible refine Below.drew ?_) | (with_reducible refine below_drewN ?_ _) | (refine Below.trans ?_ (Below.mono ‹Below _ _ _› (by first | omega | (simp; done) | (simp; omega)))) | exact Below.refl _ _ | omega | (focus (simp; done)) | (focus (simp; omega)))) hhi) (by first | omega | (simp; done) | (simp; omega)) hn).mono ?_; rintro e w2 ⟨rfl, hb2⟩; have hz2 := hb2.size; (try (simp at hz2)); obtain ⟨hcw2, hfw2⟩ := bcell hb2; (try (have hy2 : w.heap.size < w2.heap.size := by omega)); (try (have hyy2 : w.heap.size + 1 < w2.heap.size := by omega)); (try (have hyyy2 : w.heap.size + 1 + 1 < w2.heap.size := by omega))) | (go_at_call 46; refine (inside_any _ _ _ _).mono ?_; rintro e w' ⟨rfl, rfl⟩))
        obtain ⟨b1, b2, b3⟩ := HR.out
        rw [b1, b2, b3, HF.out]
        exact bodyPost_ret (v := .tuple #[.int .i64 0, .agg #[.int .i64 0, .int .i64 0], .bool false]) (by simp [results, Try.results10, go_sem, *]) rfl ⟨rfl, (by repeat (first | (with_reducible exact Below.refl _ _) | (with_reducible refine below_ov ?_ ?_) | (with_reducible refine Below.setCell ?_ ?_ _) | (with_reducible refine Below.alloc ?_ ?_ _) | (with_reducible refine Below.drew ?_) | (with_reducible refine below_drewN ?_ _) | (refine Below.trans ?_ (Below.mono ‹Below _ _ _› (by first | omega | (simp; done) | (simp; omega)))) | exact Below.refl _ _ | omega | (focus (simp; done)) | (focus (simp; omega))))⟩
      | true =>
        cases hc1_3 : inB bar 1 330 with
        | false =>
          have HF : Hid (refOk V B v b n bar = false) := by
            show refOk V B v b n bar = false
            simp only [refOk, Bool.and_eq_false_iff, decide_eq_false_iff_not]
            first | (left; left; left; assumption) | (left; left; right; have := of_decide_eq_false ‹decide ((n : Int) ≤ 10) = false›; omega) | (left; right; assumption) | (right; assumption)
          have HR := hide (ref_no HF.out)
          go_enter Try.func10, Try.ntmps10
          go_wp2_with (first | (go_at_call 43; refine (isCylinder_any _ _ _).mono ?_; rintro e w1 ⟨rfl, hb1⟩; have hz1 := hb1.size; (try (simp at hz1)); obtain ⟨hcw1, hfw1⟩ := bcell hb1; (try (have hy1 : w.heap.size < w1.heap.size := by omega)); (try (have hyy1 : w.heap.size + 1 < w1.heap.size := by omega)); (try (have hyyy1 : w.heap.size + 1 + 1 < w1.heap.size := by omega))) | (go_at_call 44; refine (ContainsFuncC_any v b n lo hi _ _ (hx.below (B := w.heap.size) (by repeat (first | (with_reducible exact Below.refl _ _) | (with_reducible refine below_ov ?_ ?_) | (with_reducible refine Below.setCell ?_ ?_ _) | (with_reducible refine Below.alloc ?_ ?_ _) | (with_reducible refine Below.drew ?_) | (with_reducible refine below_drewN ?_ _) | (refine Below.trans ?_ (Below.mono ‹Below _ _ _› (by first | omega | (simp; done) | (simp; omega)))) | exact Below.refl _ _ | omega | (focus (simp; done)) | (focus (simp; omega)))) hhi) (by first | omega | (simp; done) | (simp; omega)) hn).mono ?_; rintro e w2 ⟨rfl, hb2⟩; have hz2 := hb2.size; (try (simp at hz2)); obtain ⟨hcw2, hfw2⟩ := bcell hb2; (try (have hy2 : w.heap.size < w2.heap.size := by omega)); (try (have hyy2 : w.heap.size + 1 < w2.heap.size := by omega)); (try (have hyyy2 : w.heap.size + 1 + 1 < w2.heap.size := by omega))) | (go_at_call 46; refine (inside_any _ _ _ _).mono ?_; rintro e w' ⟨rfl, rfl⟩))
          obtain ⟨b1, b2, b3⟩ := HR.out
          rw [b1, b2, b3, HF.out]
          exact bodyPost_ret (v := .tuple #[.int .i64 0, .agg #[.int .i64 0, .int .i64 0], .bool false]) (by simp [results, Try.results10, go_sem, *]) rfl ⟨rfl, (by repeat (first | (with_reducible exact Below.refl _ _) | (with_reducible refine below_ov ?_ ?_) | (with_reducible refine Below.setCell ?_ ?_ _) | (with_reducible refine Below.alloc ?_ ?_ _) | (with_reducible refine Below.drew ?_) | (with_reducible refine below_drewN ?_ _) | (refine Below.trans ?_ (Below.mono ‹Below _ _ _› (by first | omega | (simp; done) | (simp; omega)))) | exact Below.refl _ _ | omega | (focus (simp; done)) | (focus (simp; omega))))⟩
        | true =>
          obtain ⟨hc1_3l, hc1_3r⟩ := inB_iff.1 hc1_3
          have HA : Hid (refOk V B v b n bar = true) := by show refOk V B v b n bar = true; simp [refOk, *]; omega
          have HV := hide (allB_iff.1 hc1_2)
          go_enter Try.func10, Try.ntmps10
          go_wp2_with (first | (go_at_call 43; refine (isCylinder_any _ _ _).mono ?_; rintro e w1 ⟨rfl, hb1⟩; have hz1 := hb1.size; (try (simp at hz1)); obtain ⟨hcw1, hfw1⟩ := bcell hb1; (try (have hy1 : w.heap.size < w1.heap.size := by omega)); (try (have hyy1 : w.heap.size + 1 < w1.heap.size := by omega)); (try (have hyyy1 : w.heap.size + 1 + 1 < w1.heap.size := by omega))) | (go_at_call 44; refine (ContainsFuncC_any v b n lo hi _ _ (hx.below (B := w.heap.size) (by repeat (first | (with_reducible exact Below.refl _ _) | (with_reducible refine below_ov ?_ ?_) | (with_reducible refine Below.setCell ?_ ?_ _) | (with_reducible refine Below.alloc ?_ ?_ _) | (with_reducible refine Below.drew ?_) | (with_reducible refine below_drewN ?_ _) | (refine Below.trans ?_ (Below.mono ‹Below _ _ _› (by first | omega | (simp; done) | (simp; omega)))) | exact Below.refl _ _ | omega | (focus (simp; done)) | (focus (simp; omega)))) hhi) (by first | omega | (simp; done) | (simp; omega)) hn).mono ?_; rintro e w2 ⟨rfl, hb2⟩; have hz2 := hb2.size; (try (simp at hz2)); obtain ⟨hcw2, hfw2⟩ := bcell hb2; (try (have hy2 : w.heap.size < w2.heap.size := by omega)); (try (have hyy2 : w.heap.size + 1 < w2.heap.size := by omega)); (try (have hyyy2 : w.heap.size + 1 + 1 < w2.heap.size := by omega))) | (go_at_call 46; refine (inside_any _ _ _ _).mono ?_; rintro e w' ⟨rfl, rfl⟩))
          have p0 : w2.cell? ⟨w.heap.size, 0, none⟩ = some (.int .i64 V) := (hcw2 _ _ (by omega)).trans ((hcw1 _ _ (by simp; omega)).trans ((World.cell?_alloc_lt _ _ _ (by simp)).trans (World.cell?_alloc_new _ _ _ _)))
          have p1 : w2.cell? ⟨w.heap.size, 1, none⟩ = some (.int .i64 B) := (hcw2 _ _ (by omega)).trans ((hcw1 _ _ (by simp; omega)).trans ((World.cell?_alloc_lt _ _ _ (by simp)).trans (World.cell?_alloc_new _ _ _ _)))
          have pf : ∀ o, w2.frozen? ⟨w.heap.size, o, none⟩ = false := fun o => (hfw2 _ _ (by omega)).trans ((hfw1 _ _ (by simp; omega)).trans (by simp [go_sem]))
          have r0 : w2.cell? ⟨w.heap.size + 1, 0, none⟩ = some (.int .i64 0) := (hcw2 _ _ (by omega)).trans ((hcw1 _ _ (by simp)).trans (World.cell?_alloc_at _ _ _ _ (by simp)))
          have r1 : w2.cell? ⟨w.heap.size + 1, 1, none⟩ = some (.int .i64 0) := (hcw2 _ _ (by omega)).trans ((hcw1 _ _ (by simp)).trans (World.cell?_alloc_at _ _ _ _ (by simp)))
          have rf : ∀ o, w2.frozen? ⟨w.heap.size + 1, o, none⟩ = false := fun o => (hfw2 _ _ (by omega)).trans ((hfw1 _ _ (by simp)).trans (by simp [go_sem]))
          have hb0 : Below w.heap.size w w2 := (by repeat (first | (with_reducible exact Below.refl _ _) | (with_reducible refine below_ov ?_ ?_) | (with_reducible refine Below.setCell ?_ ?_ _) | (with_reducible refine Below.alloc ?_ ?_ _) | (with_reducible refine Below.drew ?_) | (with_reducible refine below_drewN ?_ _) | (refine Below.trans ?_ (Below.mono ‹Below _ _ _› (by first | omega | (simp; done) | (simp; omega)))) | exact Below.refl _ _ | omega | (focus (simp; done)) | (focus (simp; omega))))
          have hs0 : w.heap.size + 1 < w2.heap.size := by omega
          clear hcw1 hfw1 hcw2 hfw2 hb1 hb2 hy1 hyy1 hz1 hz2
          go_loopw [9, 34] (fun c i wr => ∃ k : Nat, k ≤ n ∧ i = .int .i64 k ∧ c = .int .i64 k ∧ Hid (∀ j, j < k → rfOk V v b bar B j = true) ∧ (wr.cell? ⟨w.heap.size, 0, none⟩ = some (.int .i64 V) ∧ wr.cell? ⟨w.heap.size, 1, none⟩ = some (.int .i64 (rfB V v b bar B k))) ∧ (∀ o, wr.frozen? ⟨w.heap.size, o, none⟩ = false) ∧ wr.cell? ⟨w.heap.size + 1, 0, none⟩ = some (.int .i64 0) ∧ wr.cell? ⟨w.heap.size + 1, 1, none⟩ = some (.int .i64 0) ∧ (∀ o, wr.frozen? ⟨w.heap.size + 1, o, none⟩ = false) ∧ Below w.heap.size w wr ∧ w.heap.size + 1 < wr.heap.size) (fun _ i _ => n - (intOf i).toNat)
          case atStart => exact ⟨0, by omega, rfl, rfl, fun j hj => by omega, ⟨p0, p1⟩, pf, r0, r1, rf, hb0, hs0⟩
          case round =>
            obtain ⟨k, hk, rfl, rfl, hj, ⟨p0', p1'⟩, pf', r0', r1', rf', hb, hs⟩ := hrel
            clear p0 p1 pf r0 r1 rf
            have hs' : w.heap.size < wr.heap.size := by omega
            have hB := rfB_bd (V := V) (v := v) (b := b) (bar := bar) hc1_0s hc1_0t k
            by_cases hkn : k < n
            · obtain ⟨blk, off, rfl, h1, h2, h3⟩ := (hA.below hb (by omega)) (by omega)
              have c0 : wr.cell? ⟨blk, off + k * 2, none⟩ = some (.int .i64 (v k)) := h3 k 0 hkn (by omega)
              have c1 : wr.cell? ⟨blk, off + k * 2 + 1, none⟩ = some (.int .i64 (b k)) := h3 k 1 hkn (by omega)
              clear h3 hA
              obtain ⟨⟨v1, v2⟩, v3, v4⟩ := cylB_iff.1 (HV.out k hkn)
              cases e1 : decide (b k < bar) with
              | false =>
                have HG : Hid (rfOk V v b bar B k = true) := by show rfOk V v b bar B k = true; simp [rfOk, e1]
                have HS := hide (rfB_stay (V := V) (v := v) (B := B) (of_decide_eq_false e1))
                go_wp2_with fail
                go_roundw
                case rel => exact ⟨k + 1, by omega, by go_num, by go_num, upto_snoc hj.out HG.out, by rw [HS.out]; exact ⟨by simp [go_sem, *], by simp [go_sem, *]⟩, fun o => by simp [go_sem, *], by simp [go_sem, *], by simp [go_sem, *], fun o => by simp [go_sem, *], (by repeat (first | (with_reducible exact Below.refl _ _) | (with_reducible refine below_ov ?_ ?_) | (with_reducible refine Below.setCell ?_ ?_ _) | (with_reducible refine Below.alloc ?_ ?_ _) | (with_reducible refine Below.drew ?_) | (with_reducible refine below_drewN ?_ _) | (refine Below.trans ?_ (Below.mono ‹Below _ _ _› (by first | omega | (simp; done) | (simp; omega)))) | exact Below.refl _ _ | omega | (focus (simp; done)) | (focus (simp; omega)))), by simp; omega⟩
                case measure => simp [intOf]; omega
              | true =>
                have u1 := rf_used (x := v k) (y := b k) v1 v2 v3 v4 hc1_3l hc1_3r (of_decide_eq_true e1)
                cases e2 : aftOk V (rfB V v b bar B k) (lit (v k) bar - lit (v k) (b k)) with
                | false =>
                  have HG : Hid (rfOk V v b bar B k = false) := by show rfOk V v b bar B k = false; simp [rfOk, e1, e2]
                  have HR := hide (ref_yes HA.out hk hj.out (.inr HG.out))
                  go_wp2_with fail
                  (refine wp_region_below_lit (by kernel_rfl) (by kernel_rfl) ?_; (repeat (first | go_big_quiet_step ((first | (go_at_call 48; exact quiet_ov_same (litresAt_any _ _ _ (by omega) (by omega) (by omega) (by omega))) | (go_at_call 47; exact quiet_ov (barAfter_any V (rfB V v b bar B k) (lit (v k) bar - lit (v k) (b k)) _ (by omega) (by omega) (by omega) (by omega) (by omega) (by omega))))) | quiet_step ((first | (go_at_call 48; exact quiet_ov_same (litresAt_any _ _ _ (by omega) (by omega) (by omega) (by omega))) | (go_at_call 47; exact quiet_ov (barAfter_any V (rfB V v b bar B k) (lit (v k) bar - lit (v k) (b k)) _ (by omega) (by omega) (by omega) (by omega) (by omega) (by omega))))))); refine wpQuiet_nil ?_; intro w5 hb5; have hz5 := hb5.size; (try (simp at hz5)); obtain ⟨hcw5, hfw5⟩ := bcell hb5; (try (have hy5 : w.heap.size < w5.heap.size := by omega)); (try (have hyy5 : w.heap.size + 1 < w5.heap.size := by omega)))
                  go_wp2_with fail
                  go_region
                  go_wp2_with fail
                  obtain ⟨b1, b2, b3⟩ := HR.out
                  rw [b1, b2, b3, HA.out]
                  exact bodyPost_ret (v := .tuple #[.int .i64 (k : Nat), .agg #[.int .i64 V, .int .i64 (rfB V v b bar B k)], .bool true]) (by simp [results, Try.results10, go_sem, *]) rfl ⟨rfl, (by repeat (first | (with_reducible exact Below.refl _ _) | (with_reducible refine below_ov ?_ ?_) | (with_reducible refine Below.setCell ?_ ?_ _) | (with_reducible refine Below.alloc ?_ ?_ _) | (with_reducible refine Below.drew ?_) | (with_reducible refine below_drewN ?_ _) | (refine Below.trans ?_ (Below.mono ‹Below _ _ _› (by first | omega | (simp; done) | (simp; omega)))) | exact Below.refl _ _ | omega | (focus (simp; done)) | (focus (simp; omega))))⟩
                | true =>
                  cases e3 : decide (aftN V (rfB V v b bar B k) (lit (v k) bar - lit (v k) (b k)) < bar) with
                  | true =>
                    have HG : Hid (rfOk V v b bar B k = false) := by show rfOk V v b bar B k = false; simp [rfOk, e1, e2, e3]
                    have HR := hide (ref_yes HA.out hk hj.out (.inr HG.out))
                    go_wp2_with fail
                    (refine wp_region_below_lit (by kernel_rfl) (by kernel_rfl) ?_; (repeat (first | go_big_quiet_step ((first | (go_at_call 48; exact quiet_ov_same (litresAt_any _ _ _ (by omega) (by omega) (by omega) (by omega))) | (go_at_call 47; exact quiet_ov (barAfter_any V (rfB V v b bar B k) (lit (v k) bar - lit (v k) (b k)) _ (by omega) (by omega) (by omega) (by omega) (by omega) (by omega))))) | quiet_step ((first | (go_at_call 48; exact quiet_ov_same (litresAt_any _ _ _ (by omega) (by omega) (by omega) (by omega))) | (go_at_call 47; exact quiet_ov (barAfter_any V (rfB V v b bar B k) (lit (v k) bar - lit (v k) (b k)) _ (by omega) (by omega) (by omega) (by omega) (by omega) (by omega))))))); refine wpQuiet_nil ?_; intro w5 hb5; have hz5 := hb5.size; (try (simp at hz5)); obtain ⟨hcw5, hfw5⟩ := bcell hb5; (try (have hy5 : w.heap.size < w5.heap.size := by omega)); (try (have hyy5 : w.heap.size + 1 < w5.heap.size := by omega)))
                    go_wp2_with fail
                    go_region
                    go_wp2_with fail
                    obtain ⟨b1, b2, b3⟩ := HR.out
                    rw [b1, b2, b3, HA.out]
                    exact bodyPost_ret (v := .tuple #[.int .i64 (k : Nat), .agg #[.int .i64 V, .int .i64 (rfB V v b bar B k)], .bool true]) (by simp [results, Try.results10, go_sem, *]) rfl ⟨rfl, (by repeat (first | (with_reducible exact Below.refl _ _) | (with_reducible refine below_ov ?_ ?_) | (with_reducible refine Below.setCell ?_ ?_ _) | (with_reducible refine Below.alloc ?_ ?_ _) | (with_reducible refine Below.drew ?_) | (with_reducible refine below_drewN ?_ _) | (refine Below.trans ?_ (Below.mono ‹Below _ _ _› (by first | omega | (simp; done) | (simp; omega)))) | exact Below.refl _ _ | omega | (focus (simp; done)) | (focus (simp; omega))))⟩
                  | false =>
                    have HG : Hid (rfOk V v b bar B k = true) := by show rfOk V v b bar B k = true; simp [rfOk, e1, e2, e3]
                    have HS := hide (rfB_step (V := V) (v := v) (B := B) (of_decide_eq_true e1))
                    go_wp2_with fail
                    (refine wp_region_below_lit (by kernel_rfl) (by kernel_rfl) ?_; (repeat (first | go_big_quiet_step ((first | (go_at_call 48; exact quiet_ov_same (litresAt_any _ _ _ (by omega) (by omega) (by omega) (by omega))) | (go_at_call 47; exact quiet_ov (barAfter_any V (rfB V v b bar B k) (lit (v k) bar - lit (v k) (b k)) _ (by omega) (by omega) (by omega) (by omega) (by omega) (by omega))))) | quiet_step ((first | (go_at_call 48; exact quiet_ov_same (litresAt_any _ _ _ (by omega) (by omega) (by omega) (by omega))) | (go_at_call 47; exact quiet_ov (barAfter_any V (rfB V v b bar B k) (lit (v k) bar - lit (v k) (b k)) _ (by omega) (by omega) (by omega) (by omega) (by omega) (by omega))))))); refine wpQuiet_nil ?_; intro w5 hb5; have hz5 := hb5.size; (try (simp at hz5)); obtain ⟨hcw5, hfw5⟩ := bcell hb5; (try (have hy5 : w.heap.size < w5.heap.size := by omega)); (try (have hyy5 : w.heap.size + 1 < w5.heap.size := by omega)))
                    go_wp2_with fail
                    go_roundw
                    case rel => exact ⟨k + 1, by omega, by go_num, by go_num, upto_snoc hj.out HG.out, by rw [HS.out]; exact ⟨by simp [go_sem, *], World.cell?_setCell_same _ _ _ ((hcw5 _ _ (by simp; omega)).trans ((World.cell?_alloc_lt _ _ _ hs').trans p1'))⟩, fun o => by simp [go_sem, *], by simp [go_sem, *], by simp [go_sem, *], fun o => by simp [go_sem, *], (by repeat (first | (with_reducible exact Below.refl _ _) | (with_reducible refine below_ov ?_ ?_) | (with_reducible refine Below.setCell ?_ ?_ _) | (with_reducible refine Below.alloc ?_ ?_ _) | (with_reducible refine Below.drew ?_) | (with_reducible refine below_drewN ?_ _) | (refine Below.trans ?_ (Below.mono ‹Below _ _ _› (by first | omega | (simp; done) | (simp; omega)))) | exact Below.refl _ _ | omega | (focus (simp; done)) | (focus (simp; omega)))), by simp; omega⟩
                    case measure => simp [intOf]; omega
            · obtain rfl : k = n := by omega
              have HR := hide (ref_yes HA.out (Nat.le_refl _) hj.out (.inl rfl))
              go_wp2_with fail
              go_region
              go_wp2_with fail
              obtain ⟨b1, b2, b3⟩ := HR.out
              rw [b1, b2, b3, HA.out]
              exact bodyPost_ret (v := .tuple #[.int .i64 (k : Nat), .agg #[.int .i64 V, .int .i64 (rfB V v b bar B k)], .bool true]) (by simp [results, Try.results10, go_sem, *]) rfl ⟨rfl, (by repeat (first | (with_reducible exact Below.refl _ _) | (with_reducible refine below_ov ?_ ?_) | (with_reducible refine Below.setCell ?_ ?_ _) | (with_reducible refine Below.alloc ?_ ?_ _) | (with_reducible refine Below.drew ?_) | (with_reducible refine below_drewN ?_ _) | (refine Below.trans ?_ (Below.mono ‹Below _ _ _› (by first | omega | (simp; done) | (simp; omega)))) | exact Below.refl _ _ | omega | (focus (simp; done)) | (focus (simp; omega))))⟩

end Go.Proofs.Yteoolhoncgaapaa
