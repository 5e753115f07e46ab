/-
  Plain laws on cylinders: litres, pressures after use, leading runs. No program in sight.
-/
namespace Go.Proofs.Ytkikjneamjmdlaa
set_option linter.unusedVariables false
set_option linter.unusedSimpArgs false

def inB (n a b : Int) : Bool := decide (a ≤ n) && decide (n ≤ b)
theorem inB_iff {n a b : Int} : inB n a b = true ↔ a ≤ n ∧ n ≤ b := by simp [inB]
theorem inB_no {n a b : Int} : inB n a b = false ↔ n < a ∨ b < n := by simp [inB]; omega

def cylB (v b : Int) : Bool := inB v 10 3000 && inB b 0 330
theorem cylB_iff {v b : Int} : cylB v b = true ↔ (10 ≤ v ∧ v ≤ 3000) ∧ 0 ≤ b ∧ b ≤ 330 := by simp [cylB, inB_iff]

/-- The pressure that counts. -/
def eff (b : Int) : Int := if 200 < b then 200 + 9 * (b - 200) / 10 else b
def lit (v b : Int) : Int := v * eff b / 10
theorem eff_mono {a b : Int} (h : a ≤ b) : eff a ≤ eff b := by unfold eff; split <;> split <;> omega
theorem eff_bd {b : Int} (h0 : 0 ≤ b) (h1 : b ≤ 330) : 0 ≤ eff b ∧ eff b ≤ 317 := by unfold eff; split <;> omega
theorem lit_mono {v a b : Int} (hv : 0 ≤ v) (h : a ≤ b) : lit v a ≤ lit v b := by
  unfold lit
  have := Int.mul_le_mul_of_nonneg_left (eff_mono h) hv
  omega
theorem lit_zero (v : Int) : lit v 0 = 0 := by simp [lit, eff]
theorem mul_bd {v e : Int} (hv : 0 ≤ v) (hv' : v ≤ 3000) (he : 0 ≤ e) (he' : e ≤ 317) : 0 ≤ v * e ∧ v * e ≤ 951000 := by
  refine ⟨Int.mul_nonneg hv he, ?_⟩
  have h1 := Int.mul_le_mul_of_nonneg_left he' hv
  have h2 := Int.mul_le_mul_of_nonneg_right hv' (show (0 : Int) ≤ 317 by omega)
  omega
theorem lit_bd {v b : Int} (hv : 0 ≤ v) (hv' : v ≤ 3000) (h0 : 0 ≤ b) (h1 : b ≤ 330) : 0 ≤ lit v b ∧ lit v b ≤ 95100 := by
  have he := eff_bd h0 h1
  have := mul_bd hv hv' he.1 he.2
  unfold lit
  omega

/-- The greatest pressure, at most n, with at most 'left' litres. -/
def down (v left : Int) : Nat → Nat
  | 0 => 0
  | n + 1 => if left < lit v ((n : Int) + 1) then down v left n else n + 1
theorem down_le (v left : Int) (n : Nat) : down v left n ≤ n := by
  induction n with
  | zero => simp [down]
  | succ n ih => unfold down; split <;> omega
theorem down_lit {v left : Int} (h : 0 ≤ left) (n : Nat) : lit v (down v left n : Nat) ≤ left := by
  induction n with
  | zero => simp [down, lit_zero]; exact h
  | succ n ih =>
    unfold down
    split
    · exact ih
    · rename_i hh; push_cast; omega
theorem down_max {v left : Int} : ∀ {n m : Nat}, m ≤ n → lit v (m : Nat) ≤ left → m ≤ down v left n
  | 0, m, hm, _ => by omega
  | n + 1, m, hm, hl => by
    unfold down
    split
    · rename_i hh
      rcases Nat.lt_or_ge m (n + 1) with h | h
      · exact down_max (by omega) hl
      · obtain rfl : m = n + 1 := by omega
        push_cast at hl
        omega
    · exact hm
theorem down_step {v left : Int} {n m : Nat} (hm : m ≤ n) (h : ∀ j : Nat, m < j → j ≤ n → left < lit v (j : Nat)) (hl : m = 0 ∨ lit v (m : Nat) ≤ left) : down v left n = m := by
  induction n with
  | zero => simp [down]; omega
  | succ n ih =>
    unfold down
    rcases Nat.lt_or_ge m (n + 1) with hlt | hge
    · have h1 := h (n + 1) hlt (Nat.le_refl _)
      push_cast at h1
      rw [if_pos h1]
      exact ih (by omega) fun j h2 h3 => h j h2 (by omega)
    · obtain rfl : m = n + 1 := by omega
      rcases hl with hl | hl
      · omega
      · push_cast at hl
        rw [if_neg (by omega)]
theorem down_anti {v l1 l2 : Int} (hl0 : 0 ≤ l2) (h : l2 ≤ l1) (n : Nat) : down v l2 n ≤ down v l1 n :=
  down_max (down_le _ _ _) (by have := down_lit (v := v) hl0 n; omega)
theorem down_self {v : Int} (n : Nat) : down v (lit v (n : Nat)) n = n :=
  down_step (Nat.le_refl _) (fun j h1 h2 => by omega) (.inr (Int.le_refl _))
/-- From above: the least of b and the greatest pressure at all. -/
theorem down_min {v left : Int} (hv : 0 ≤ v) (h0 : 0 ≤ left) {n N : Nat} (hn : n ≤ N) : min n (down v left N) = down v left n := by
  have h1 := down_le v left n
  have h2 : down v left n ≤ down v left N := down_max (by omega) (down_lit h0 n)
  have h3 : min n (down v left N) ≤ down v left n := by
    refine down_max (Nat.min_le_left _ _) ?_
    have h4 := down_lit (v := v) h0 N
    have h5 : lit v ((min n (down v left N) : Nat) : Int) ≤ lit v ((down v left N : Nat) : Int) := lit_mono hv (by omega)
    omega
  omega

/-- What is left after 'used' litres, if there are so many. -/
def aftOk (v b used : Int) : Bool := decide (used ≤ lit v b)
def aftN (v b used : Int) : Int := if used ≤ lit v b then (down v (lit v b - used) b.toNat : Nat) else 0
theorem aftN_bd {v b used : Int} (h0 : 0 ≤ b) : 0 ≤ aftN v b used ∧ aftN v b used ≤ b := by
  unfold aftN
  have := down_le v (lit v b - used) b.toNat
  split <;> omega
theorem aftN_lit {v b used : Int} (h : used ≤ lit v b) : lit v (aftN v b used) ≤ lit v b - used := by
  unfold aftN
  rw [if_pos h]
  exact down_lit (by omega) _
theorem aftN_anti {v b u1 u2 : Int} (h : u1 ≤ u2) (h2 : u2 ≤ lit v b) : aftN v b u2 ≤ aftN v b u1 := by
  unfold aftN
  rw [if_pos h2, if_pos (by omega)]
  have := down_anti (v := v) (l1 := lit v b - u1) (l2 := lit v b - u2) (by omega) (by omega) b.toNat
  omega
theorem aftN_zero {v b : Int} (h0 : 0 ≤ b) (hl : 0 ≤ lit v b) : aftN v b 0 = b := by
  unfold aftN
  rw [if_pos hl]
  have hb : ((b.toNat : Nat) : Int) = b := Int.toNat_of_nonneg h0
  have := down_self (v := v) b.toNat
  rw [hb] at this
  rw [show lit v b - 0 = lit v b by omega, this, hb]

/-- How many of the first N are so, up to the first that is not. -/
def lead (g : Nat → Bool) : Nat → Nat
  | 0 => 0
  | n + 1 => if g 0 then lead (fun k => g (k + 1)) n + 1 else 0
theorem lead_eq {g : Nat → Bool} : ∀ {N k : Nat}, k ≤ N → (∀ j, j < k → g j = true) → (k = N ∨ g k = false) → lead g N = k := by
  intro N
  induction N generalizing g with
  | zero => intro k hk _ _; simp [lead]; omega
  | succ N ih =>
    intro k hk hj he
    unfold lead
    match k with
    | 0 =>
      rcases he with he | he
      · omega
      · simp [he]
    | k + 1 =>
      rw [if_pos (hj 0 (by omega))]
      rw [ih (g := fun k => g (k + 1)) (k := k) (by omega) (fun j h => hj (j + 1) (by omega)) (by
        rcases he with he | he
        · left; omega
        · right; exact he)]
theorem lead_spec (g : Nat → Bool) : ∀ (N : Nat), lead g N ≤ N ∧ (∀ j, j < lead g N → g j = true) ∧ (lead g N = N ∨ g (lead g N) = false) := by
  intro N
  induction N generalizing g with
  | zero => simp [lead]
  | succ N ih =>
    obtain ⟨h1, h2, h3⟩ := ih (fun k => g (k + 1))
    unfold lead
    by_cases hg : g 0 = true
    · rw [if_pos hg]
      refine ⟨by omega, fun j hj => ?_, ?_⟩
      · match j with
        | 0 => exact hg
        | j + 1 => exact h2 j (by omega)
      · rcases h3 with h3 | h3
        · left; omega
        · right; exact h3
    · rw [if_neg hg]
      refine ⟨by omega, fun j hj => by omega, .inr (by simpa using hg)⟩

/-- After n minutes more than 'first' at least 'bar' is left. -/
def okAt (v b rate first bar : Int) (n : Nat) : Bool := aftOk v b (rate * (first + n)) && decide (bar ≤ aftN v b (rate * (first + n)))
theorem okAt_mono {v b rate first bar : Int} (hr : 0 ≤ rate) {m n : Nat} (h : m ≤ n) (hn : okAt v b rate first bar n = true) : okAt v b rate first bar m = true := by
  simp only [okAt, aftOk, Bool.and_eq_true, decide_eq_true_eq] at hn ⊢
  have h1 : rate * (first + m) ≤ rate * (first + n) := Int.mul_le_mul_of_nonneg_left (by omega) hr
  have := aftN_anti h1 hn.1
  omega
/-- The greatest number of minutes, up to 600, or -1. -/
def timeF (v b rate first bar : Int) : Int := (lead (okAt v b rate first bar) 601 : Nat) - 1
theorem timeF_bd (v b rate first bar : Int) : -1 ≤ timeF v b rate first bar ∧ timeF v b rate first bar ≤ 600 := by
  unfold timeF
  have := (lead_spec (okAt v b rate first bar) 601).1
  omega
theorem timeF_of {v b rate first bar : Int} {k : Nat} (hk : k ≤ 601) (h : ∀ j, j < k → okAt v b rate first bar j = true) (he : k = 601 ∨ okAt v b rate first bar k = false) : timeF v b rate first bar = (k : Int) - 1 := by
  unfold timeF
  rw [lead_eq hk h he]

/-- A rate between two checks, rounded up. -/
def upF (a b : Int) : Int := (a + b - 1) / b
theorem upF_bd {a d : Int} (ha : 0 ≤ a) (ha' : a ≤ 95100) (hd : 1 ≤ d) : 0 ≤ upF a d ∧ upF a d ≤ 95100 := by
  unfold upF
  refine ⟨Int.ediv_nonneg (by omega) (by omega), ?_⟩
  have h1 : (a + d - 1) / d < 95101 := by
    rw [Int.ediv_lt_iff_lt_mul (by omega)]
    have h2 : 95101 * 1 ≤ 95101 * d := Int.mul_le_mul_of_nonneg_left hd (by omega)
    have h3 : 95101 * d = 95100 * d + d := by omega
    have h4 : 95100 * 1 ≤ 95100 * d := Int.mul_le_mul_of_nonneg_left hd (by omega)
    omega
  omega

end Go.Proofs.Ytkikjneamjmdlaa
