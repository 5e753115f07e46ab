/-
  Texts of this proof, one behind the other (part 12).
-/
import Derived.Test.YtpckhpkbdanjoaaDoorQ11
/-
  Plain words for FnWays: the way back leads there, it is as long as the way there; what is reached is open. No program in sight.-/
namespace Go.Proofs.YtpckhpkbdanjoaaDoor
set_option linter.unusedVariables false
set_option linter.unusedSimpArgs false

theorem wbG_size (F : Nat → ByteArray) (n : Nat) (b : Int × Int) : ∀ (k : Nat) (p : Int × Int) (s : ByteArray), (wbG F n b k p s).size = s.size + k
  | 0, _, _ => rfl
  | k + 1, p, s => by
    rw [wbG, wbG_size, ByteArray.size_append, ltrB_size]
    omega
theorem sfOk_parts {F : Nat → ByteArray} {n : Nat} {r c : Int} (h : sfOk F n r c = true) : flB F n = true ∧ opB F n r c = true := by
  simpa only [sfOk, Bool.and_eq_true] using h
theorem wbOk_parts {F : Nat → ByteArray} {n : Nat} {r c x y : Int} (h : wbOk F n r c x y = true) : flB F n = true ∧ opB F n r c = true ∧ opB F n x y = true ∧ 0 ≤ lfF F n (x, y) (r, c) := by
  simp only [wbOk, Bool.and_eq_true, decide_eq_true_eq] at h
  obtain ⟨⟨h1, h2⟩, h3⟩ := h
  obtain ⟨h4, h5⟩ := sfOk_parts h1
  exact ⟨h4, h5, h2, h3⟩
theorem wbS_size {F : Nat → ByteArray} {n : Nat} {r c x y : Int} (h : wbOk F n r c x y = true) : (wbS F n r c x y).size = (lfF F n (x, y) (r, c)).toNat := by
  rw [wbS, if_pos h, wbG_size]
  show 0 + _ = _
  omega
theorem wbS_small (F : Nat → ByteArray) (n : Nat) (r c x y : Int) : (wbS F n r c x y).size ≤ 144 := by
  by_cases h : wbOk F n r c x y = true
  · obtain ⟨h1, h2, h3, h4⟩ := wbOk_parts h
    rw [wbS_size h]
    have h5 := lf_bd (F := F) (n := n) (b := (x, y)) h3 (r, c)
    have h6 := (fl_area h1).2
    omega
  · rw [wbS, if_neg h]
    decide

theorem byteAt_left (s t : ByteArray) {i : Nat} (h : i < s.size) : byteAt (s ++ t) i = byteAt s i := by
  have h1 : i < (s ++ t).size := by rw [ByteArray.size_append]; omega
  rw [byteAt, byteAt, dif_pos h, dif_pos h1]
  rw [ByteArray.getElem_append_left h]
theorem byteAt_ltr (s : ByteArray) {d : Nat} (hd : d < 4) : byteAt (s ++ ltrB d) s.size = dL d := by
  have h1 : s.size < (s ++ ltrB d).size := by rw [ByteArray.size_append, ltrB_size]; omega
  rw [byteAt, dif_pos h1, ByteArray.getElem_append_right (Nat.le_refl _)]
  match d, hd with
  | 0, _ => simp [ltrB, dL]; rfl
  | 1, _ => simp [ltrB, dL]; rfl
  | 2, _ => simp [ltrB, dL]; rfl
  | 3, _ => simp [ltrB, dL]; rfl
theorem fwA_left {F : Nat → ByteArray} {n : Nat} {a : Int × Int} (s t : ByteArray) : ∀ {m : Nat}, m ≤ s.size → fwA F n a (s ++ t) m = fwA F n a s m
  | 0, _ => rfl
  | m + 1, h => by
    rw [fwA, fwA, fwA_left s t (m := m) (by omega), byteAt_left s t (by omega)]
theorem wbJ_lt (F : Nat → ByteArray) (n : Nat) (b p : Int × Int) : wbJ F n b p < 4 := by
  unfold wbJ; split <;> (try split) <;> (try split) <;> omega
theorem wbJ_ok {F : Nat → ByteArray} {n : Nat} {b p : Int × Int} {k : Nat} (hb : opP F n b = true) (hp : opP F n p = true) (h : lfF F n b p = (k + 1 : Nat)) : wbT F n b p (wbJ F n b p) = true := by
  by_cases h0 : wbT F n b p 0 = true
  · simp [wbJ, h0]
  · by_cases h1 : wbT F n b p 1 = true
    · simp [wbJ, h0, h1]
    · by_cases h2 : wbT F n b p 2 = true
      · simp [wbJ, h0, h1, h2]
      · by_cases h3 : wbT F n b p 3 = true
        · simp [wbJ, h0, h1, h2, h3]
        · exfalso
          refine wb_some hb hp h fun i hi => ?_
          match i, hi with
          | 0, _ => simpa using h0
          | 1, _ => simpa using h1
          | 2, _ => simpa using h2
          | 3, _ => simpa using h3
theorem wbG_fw {F : Nat → ByteArray} {n : Nat} {a b : Int × Int} (hb : opP F n b = true) : ∀ (k : Nat) (p : Int × Int) (s : ByteArray), opP F n p = true → lfF F n b p = (k : Nat) → fwA F n a s s.size = some p → fwA F n a (wbG F n b k p s) (wbG F n b k p s).size = some b
  | 0, p, s, hp, hk, hs => by
    have := (wb_same hb hp (by rw [hk]; omega)).2 hk
    rw [← this]
    exact hs
  | k + 1, p, s, hp, hk, hs => by
    have hj := wbJ_ok hb hp hk
    have hj4 := ordD_lt (wbJ_lt F n b p)
    obtain ⟨h1, h2⟩ := wb_parts hj
    rw [wbG]
    refine wbG_fw hb k _ _ h1 (by rw [h2, hk]; push_cast; omega) ?_
    rw [ByteArray.size_append, ltrB_size]
    exact fwA_step (by rw [fwA_left _ _ (Nat.le_refl _)]; exact hs) (by rw [byteAt_ltr s hj4, ltr_dL hj4]) h1
/-- The way back, followed, leads there. -/
theorem way_follow {F : Nat → ByteArray} {n : Nat} {r c x y : Int} (h : wbOk F n r c x y = true) : fwOk F n r c (wbS F n r c x y) = true ∧ fwP F n r c (wbS F n r c x y) = (x, y) := by
  obtain ⟨h1, h2, h3, h4⟩ := wbOk_parts h
  obtain ⟨k, hk⟩ : ∃ k : Nat, lfF F n (x, y) (r, c) = k := ⟨_, (Int.toNat_of_nonneg h4).symm⟩
  have hf : fwA F n (r, c) (wbS F n r c x y) (wbS F n r c x y).size = some (x, y) := by
    rw [wbS, if_pos h, hk, Int.toNat_natCast]
    exact wbG_fw (b := (x, y)) (show opP F n (x, y) = true from h3) k (r, c) ⟨#[]⟩ h2 hk rfl
  have ho : fwOk F n r c (wbS F n r c x y) = true := by
    have hsz : (wbS F n r c x y).size ≤ 200 := by have := wbS_small F n r c x y; omega
    rw [fwOk, hf, decide_eq_true hsz, sfOk, h1, h2]; rfl
  exact ⟨ho, by rw [fwP, if_pos ho, hf]; rfl⟩
theorem lf_symm {F : Nat → ByteArray} {n : Nat} {r c x y : Int} (h : wbOk F n r c x y = true) : lfF F n (r, c) (x, y) = lfF F n (x, y) (r, c) := by
  obtain ⟨h1, h2, h3, h4⟩ := wbOk_parts h
  exact stF_symm h3 h2 h4
/-- The way there is there, too, and as long. -/
theorem way_symm {F : Nat → ByteArray} {n : Nat} {r c x y : Int} (h : wbOk F n r c x y = true) : wbOk F n x y r c = true ∧ (wbS F n x y r c).size = (wbS F n r c x y).size := by
  obtain ⟨h1, h2, h3, h4⟩ := wbOk_parts h
  have ho : wbOk F n x y r c = true := by
    rw [wbOk, sfOk, h1, h2, h3, lf_symm h, decide_eq_true h4]; rfl
  exact ⟨ho, by rw [wbS_size ho, wbS_size h, lf_symm h]⟩
/-- The number of steps at the end is the way's length. -/
theorem way_steps {F : Nat → ByteArray} {n : Nat} {r c x y : Int} (h : wbOk F n r c x y = true) : x * ((F 0).size : Int) + y = (ixF F (x, y) : Int) ∧ ixF F (x, y) < n * (F 0).size ∧ sfO F n r c (ixF F (x, y)) = ((wbS F n r c x y).size : Nat) := by
  obtain ⟨h1, h2, h3, h4⟩ := wbOk_parts h
  refine ⟨ix_cast (p := (x, y)) h3, ix_lt (p := (x, y)) h3, ?_⟩
  rw [wbS_size h, Int.toNat_of_nonneg h4, ← lf_symm h]
  rfl
theorem cntF_imp {p q : Nat → Bool} : ∀ {N : Nat}, (∀ j, j < N → p j = true → q j = true) → cntF p N ≤ cntF q N
  | 0, _ => Nat.le_refl _
  | N + 1, h => by
    have h1 := cntF_imp (N := N) fun j hj => h j (by omega)
    rw [cntF, cntF]
    by_cases hp : p N = true
    · rw [if_pos hp, if_pos (h N (by omega) hp)]; omega
    · rw [if_neg hp]; omega
theorem cntF_pos {p : Nat → Bool} : ∀ {N j : Nat}, j < N → p j = true → 1 ≤ cntF p N
  | N + 1, j, hj, h => by
    rw [cntF]
    rcases Nat.lt_or_ge j N with h1 | h1
    · have := cntF_pos h1 h; omega
    · obtain rfl : j = N := by omega
      rw [if_pos h]; omega
def opnJ (F : Nat → ByteArray) (W j : Nat) : Bool := decide (byteAt (F (j / W)) (j % W) = 46)
theorem cnt_row {F : Nat → ByteArray} {W : Nat} (hW : 0 < W) (i : Nat) : ∀ m, m ≤ W → cntF (opnJ F W) (i * W + m) = cntF (opnJ F W) (i * W) + cntR (F i) m
  | 0, _ => rfl
  | m + 1, h => by
    rw [← Nat.add_assoc, cntF, cnt_row hW i m (by omega), cntR]
    have e1 : (i * W + m) / W = i := by rw [Nat.mul_comm, Nat.mul_add_div hW, Nat.div_eq_of_lt (by omega)]; rfl
    have e2 : (i * W + m) % W = m := by rw [Nat.mul_comm, Nat.mul_add_mod, Nat.mod_eq_of_lt (by omega)]
    have e3 : (opnJ F W (i * W + m) = true) = (byteAt (F i) m = 46) := by rw [opnJ, e1, e2, decide_eq_true_eq]
    by_cases h4 : byteAt (F i) m = 46
    · rw [if_pos h4, if_pos (by rw [e3]; exact h4), Nat.add_assoc]
    · rw [if_neg h4, if_neg (by rw [e3]; exact h4), Nat.add_assoc]
theorem cnt_all {F : Nat → ByteArray} {W : Nat} (hW : 0 < W) : ∀ k, (∀ i, i < k → (F i).size = W) → cntF (opnJ F W) (k * W) = cntO F k
  | 0, _ => by rw [Nat.zero_mul]; rfl
  | k + 1, h => by
    rw [Nat.succ_mul, cnt_row hW k W (Nat.le_refl _), cnt_all hW k fun i hi => h i (by omega), cntO, h k (by omega)]
/-- How many of the first k numbers are not negative. -/
def rchF (o : Nat → Int) (k : Nat) : Nat := cntF (fun j => decide (0 ≤ o j)) k
/-- What is reached is open, and the start is reached. -/
theorem reached_ok {F : Nat → ByteArray} {n : Nat} {r c : Int} (h : sfOk F n r c = true) : 1 ≤ rchF (sfO F n r c) (n * (F 0).size) ∧ rchF (sfO F n r c) (n * (F 0).size) ≤ coR F n := by
  obtain ⟨h1, h2⟩ := sfOk_parts h
  obtain ⟨g1, g2, g3, g4, g5, _⟩ := flB_facts h1
  have h2' : opP F n (r, c) = true := h2
  constructor
  · refine cntF_pos (ix_lt h2') ?_
    show decide (0 ≤ stF F n (r, c) (ixF F (r, c))) = true
    rw [stF_zero h2']; rfl
  · rw [coR, if_pos h1, ← cnt_all (W := (F 0).size) (by omega) n g5]
    refine cntF_imp fun j hj hr => ?_
    have hr' : 0 ≤ stF F n (r, c) j := of_decide_eq_true hr
    obtain ⟨p, hp, rfl⟩ := stF_wall h2' hr'
    obtain ⟨a1, a2, a3, a4⟩ := opP_bd hp
    obtain ⟨_, _, a5⟩ := opB_iff.1 hp
    have e := ix_cast hp
    obtain ⟨i, hi⟩ : ∃ i : Nat, p.1 = i := ⟨_, (Int.toNat_of_nonneg a1).symm⟩
    obtain ⟨m, hm⟩ : ∃ m : Nat, p.2 = m := ⟨_, (Int.toNat_of_nonneg a3).symm⟩
    rw [hi, hm] at e a5
    have e' : ixF F p = i * (F 0).size + m := by
      have : ((i * (F 0).size + m : Nat) : Int) = (ixF F p : Int) := by rw [← e]; push_cast; rfl
      exact (Int.ofNat_inj.1 this).symm
    have hmW : m < (F 0).size := by omega
    rw [opnJ, e']
    have e1 : (i * (F 0).size + m) / (F 0).size = i := by rw [Nat.mul_comm, Nat.mul_add_div (by omega), Nat.div_eq_of_lt hmW]; rfl
    have e2 : (i * (F 0).size + m) % (F 0).size = m := by rw [Nat.mul_comm, Nat.mul_add_mod, Nat.mod_eq_of_lt hmW]
    rw [e1, e2]
    exact decide_eq_true (by simpa using a5)
/-- The farthest cell: its number of steps is the most. -/
theorem far_ok {F : Nat → ByteArray} {n : Nat} {r c : Int} (h : sfOk F n r c = true) : ∃ k : Nat, k < n * (F 0).size ∧ (faP F n r c).1 * ((F 0).size : Int) + (faP F n r c).2 = k ∧ sfO F n r c k = faN F n r c ∧ ∀ j, j < n * (F 0).size → sfO F n r c j ≤ faN F n r c := by
  obtain ⟨h1, h2⟩ := sfOk_parts h
  have h2' : opP F n (r, c) = true := h2
  have hN := (fl_area h1).1
  obtain ⟨N, hN'⟩ : ∃ N, n * (F 0).size = N + 1 := ⟨n * (F 0).size - 1, by omega⟩
  obtain ⟨a1, a2, _, a4, _⟩ := mxF_spec (o := stF F n (r, c)) (N := N + 1) (fun i => (stF_bd h2' i).1) N (by omega)
  have e : faK F n r c = mxF (stF F n (r, c)) (N + 1) := by rw [faK, hN']
  refine ⟨(faK F n r c).2, by rw [hN', e]; exact a1, ?_, ?_, fun j hj => ?_⟩
  · rw [faP, if_pos h]
    show (((faK F n r c).2 : Nat) : Int) / ((F 0).size : Int) * ((F 0).size : Int) + (((faK F n r c).2 : Nat) : Int) % ((F 0).size : Int) = _
    exact Int.ediv_mul_add_emod _ _
  · rw [faN, if_pos h, e]
    exact a2.symm
  · rw [faN, if_pos h, e]
    exact a4 j (by omega)

theorem far_bd {F : Nat → ByteArray} {n : Nat} {r c : Int} (h : sfOk F n r c = true) : (-12 ≤ (faP F n r c).1 * ((F 0).size : Int) ∧ (faP F n r c).1 * ((F 0).size : Int) ≤ 144) ∧ 0 ≤ (faP F n r c).2 ∧ (faP F n r c).2 ≤ 12 := by
  obtain ⟨k, hk, e, _, _⟩ := far_ok h
  obtain ⟨h1, h2⟩ := sfOk_parts h
  obtain ⟨g1, g2, g3, g4, _⟩ := flB_facts h1
  have h3 := (fl_area h1).2
  have e2 : (faP F n r c).2 = (((faK F n r c).2 : Nat) : Int) % ((F 0).size : Int) := by rw [faP, if_pos h]
  have a1 := Int.emod_nonneg (((faK F n r c).2 : Nat) : Int) (show ((F 0).size : Int) ≠ 0 by omega)
  have a2 := Int.emod_lt_of_pos (((faK F n r c).2 : Nat) : Int) (show 0 < ((F 0).size : Int) by omega)
  rw [← e2] at a1 a2
  omega
theorem rchF_le (o : Nat → Int) (k : Nat) : rchF o k ≤ k := cntF_le _ _
theorem rchF_yes {o : Nat → Int} {k : Nat} (h : 0 ≤ o k) : rchF o (k + 1) = rchF o k + 1 := by
  rw [rchF, cntF, if_pos (decide_eq_true h)]; rfl
theorem rchF_no {o : Nat → Int} {k : Nat} (h : ¬ 0 ≤ o k) : rchF o (k + 1) = rchF o k := by
  rw [rchF, cntF, if_neg (by simpa using h)]; rfl

end Go.Proofs.YtpckhpkbdanjoaaDoor
