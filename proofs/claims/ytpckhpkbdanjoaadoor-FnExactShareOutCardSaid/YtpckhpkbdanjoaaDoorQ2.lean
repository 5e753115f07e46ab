/-
  Texts of this proof, one behind the other (part 2).
-/
import Derived.Test.YtpckhpkbdanjoaaDoorQ1
import Derived.Laws.BytesArg
/-
  Plain laws on cylinders: litres, pressures after use, leading runs. No program in sight.-/
namespace Go.Proofs.YtpckhpkbdanjoaaDoor
set_option linter.unusedVariables false
set_option linter.unusedSimpArgs false

def inB (n a b : Int) : Bool := decide (a ≤ n) && decide (n ≤ b)
theorem inB_iff {n a b : Int} : inB n a b = true ↔ a ≤ n ∧ n ≤ b := by simp [inB]
theorem inB_no {n a b : Int} : inB n a b = false ↔ n < a ∨ b < n := by simp [inB]; omega

def cylB (v b : Int) : Bool := inB v 10 3000 && inB b 0 330
theorem cylB_iff {v b : Int} : cylB v b = true ↔ (10 ≤ v ∧ v ≤ 3000) ∧ 0 ≤ b ∧ b ≤ 330 := by simp [cylB, inB_iff]

/-- The pressure that counts. -/
def eff (b : Int) : Int := if 200 < b then 200 + 9 * (b - 200) / 10 else b
def lit (v b : Int) : Int := v * eff b / 10
theorem eff_mono {a b : Int} (h : a ≤ b) : eff a ≤ eff b := by unfold eff; split <;> split <;> omega
theorem eff_bd {b : Int} (h0 : 0 ≤ b) (h1 : b ≤ 330) : 0 ≤ eff b ∧ eff b ≤ 317 := by unfold eff; split <;> omega
theorem lit_mono {v a b : Int} (hv : 0 ≤ v) (h : a ≤ b) : lit v a ≤ lit v b := by
  unfold lit
  have := Int.mul_le_mul_of_nonneg_left (eff_mono h) hv
  omega
theorem lit_zero (v : Int) : lit v 0 = 0 := by simp [lit, eff]
theorem mul_bd {v e : Int} (hv : 0 ≤ v) (hv' : v ≤ 3000) (he : 0 ≤ e) (he' : e ≤ 317) : 0 ≤ v * e ∧ v * e ≤ 951000 := by
  refine ⟨Int.mul_nonneg hv he, ?_⟩
  have h1 := Int.mul_le_mul_of_nonneg_left he' hv
  have h2 := Int.mul_le_mul_of_nonneg_right hv' (show (0 : Int) ≤ 317 by omega)
  omega
theorem lit_bd {v b : Int} (hv : 0 ≤ v) (hv' : v ≤ 3000) (h0 : 0 ≤ b) (h1 : b ≤ 330) : 0 ≤ lit v b ∧ lit v b ≤ 95100 := by
  have he := eff_bd h0 h1
  have := mul_bd hv hv' he.1 he.2
  unfold lit
  omega

/-- The greatest pressure, at most n, with at most 'left' litres. -/
def down (v left : Int) : Nat → Nat
  | 0 => 0
  | n + 1 => if left < lit v ((n : Int) + 1) then down v left n else n + 1
theorem down_le (v left : Int) (n : Nat) : down v left n ≤ n := by
  induction n with
  | zero => simp [down]
  | succ n ih => unfold down; split <;> omega
theorem down_lit {v left : Int} (h : 0 ≤ left) (n : Nat) : lit v (down v left n : Nat) ≤ left := by
  induction n with
  | zero => simp [down, lit_zero]; exact h
  | succ n ih =>
    unfold down
    split
    · exact ih
    · rename_i hh; push_cast; omega
theorem down_max {v left : Int} : ∀ {n m : Nat}, m ≤ n → lit v (m : Nat) ≤ left → m ≤ down v left n
  | 0, m, hm, _ => by omega
  | n + 1, m, hm, hl => by
    unfold down
    split
    · rename_i hh
      rcases Nat.lt_or_ge m (n + 1) with h | h
      · exact down_max (by omega) hl
      · obtain rfl : m = n + 1 := by omega
        push_cast at hl
        omega
    · exact hm
theorem down_step {v left : Int} {n m : Nat} (hm : m ≤ n) (h : ∀ j : Nat, m < j → j ≤ n → left < lit v (j : Nat)) (hl : m = 0 ∨ lit v (m : Nat) ≤ left) : down v left n = m := by
  induction n with
  | zero => simp [down]; omega
  | succ n ih =>
    unfold down
    rcases Nat.lt_or_ge m (n + 1) with hlt | hge
    · have h1 := h (n + 1) hlt (Nat.le_refl _)
      push_cast at h1
      rw [if_pos h1]
      exact ih (by omega) fun j h2 h3 => h j h2 (by omega)
    · obtain rfl : m = n + 1 := by omega
      rcases hl with hl | hl
      · omega
      · push_cast at hl
        rw [if_neg (by omega)]
theorem down_anti {v l1 l2 : Int} (hl0 : 0 ≤ l2) (h : l2 ≤ l1) (n : Nat) : down v l2 n ≤ down v l1 n :=
  down_max (down_le _ _ _) (by have := down_lit (v := v) hl0 n; omega)
theorem down_self {v : Int} (n : Nat) : down v (lit v (n : Nat)) n = n :=
  down_step (Nat.le_refl _) (fun j h1 h2 => by omega) (.inr (Int.le_refl _))
/-- From above: the least of b and the greatest pressure at all. -/
theorem down_min {v left : Int} (hv : 0 ≤ v) (h0 : 0 ≤ left) {n N : Nat} (hn : n ≤ N) : min n (down v left N) = down v left n := by
  have h1 := down_le v left n
  have h2 : down v left n ≤ down v left N := down_max (by omega) (down_lit h0 n)
  have h3 : min n (down v left N) ≤ down v left n := by
    refine down_max (Nat.min_le_left _ _) ?_
    have h4 := down_lit (v := v) h0 N
    have h5 : lit v ((min n (down v left N) : Nat) : Int) ≤ lit v ((down v left N : Nat) : Int) := lit_mono hv (by omega)
    omega
  omega

/-- What is left after 'used' litres, if there are so many. -/
def aftOk (v b used : Int) : Bool := decide (used ≤ lit v b)
def aftN (v b used : Int) : Int := if used ≤ lit v b then (down v (lit v b - used) b.toNat : Nat) else 0
theorem aftN_bd {v b used : Int} (h0 : 0 ≤ b) : 0 ≤ aftN v b used ∧ aftN v b used ≤ b := by
  unfold aftN
  have := down_le v (lit v b - used) b.toNat
  split <;> omega
theorem aftN_lit {v b used : Int} (h : used ≤ lit v b) : lit v (aftN v b used) ≤ lit v b - used := by
  unfold aftN
  rw [if_pos h]
  exact down_lit (by omega) _
theorem aftN_anti {v b u1 u2 : Int} (h : u1 ≤ u2) (h2 : u2 ≤ lit v b) : aftN v b u2 ≤ aftN v b u1 := by
  unfold aftN
  rw [if_pos h2, if_pos (by omega)]
  have := down_anti (v := v) (l1 := lit v b - u1) (l2 := lit v b - u2) (by omega) (by omega) b.toNat
  omega
theorem aftN_zero {v b : Int} (h0 : 0 ≤ b) (hl : 0 ≤ lit v b) : aftN v b 0 = b := by
  unfold aftN
  rw [if_pos hl]
  have hb : ((b.toNat : Nat) : Int) = b := Int.toNat_of_nonneg h0
  have := down_self (v := v) b.toNat
  rw [hb] at this
  rw [show lit v b - 0 = lit v b by omega, this, hb]

/-- How many of the first N are so, up to the first that is not. -/
def lead (g : Nat → Bool) : Nat → Nat
  | 0 => 0
  | n + 1 => if g 0 then lead (fun k => g (k + 1)) n + 1 else 0
theorem lead_eq {g : Nat → Bool} : ∀ {N k : Nat}, k ≤ N → (∀ j, j < k → g j = true) → (k = N ∨ g k = false) → lead g N = k := by
  intro N
  induction N generalizing g with
  | zero => intro k hk _ _; simp [lead]; omega
  | succ N ih =>
    intro k hk hj he
    unfold lead
    match k with
    | 0 =>
      rcases he with he | he
      · omega
      · simp [he]
    | k + 1 =>
      rw [if_pos (hj 0 (by omega))]
      rw [ih (g := fun k => g (k + 1)) (k := k) (by omega) (fun j h => hj (j + 1) (by omega)) (by
        rcases he with he | he
        · left; omega
        · right; exact he)]
theorem lead_spec (g : Nat → Bool) : ∀ (N : Nat), lead g N ≤ N ∧ (∀ j, j < lead g N → g j = true) ∧ (lead g N = N ∨ g (lead g N) = false) := by
  intro N
  induction N generalizing g with
  | zero => simp [lead]
  | succ N ih =>
    obtain ⟨h1, h2, h3⟩ := ih (fun k => g (k + 1))
    unfold lead
    by_cases hg : g 0 = true
    · rw [if_pos hg]
      refine ⟨by omega, fun j hj => ?_, ?_⟩
      · match j with
        | 0 => exact hg
        | j + 1 => exact h2 j (by omega)
      · rcases h3 with h3 | h3
        · left; omega
        · right; exact h3
    · rw [if_neg hg]
      refine ⟨by omega, fun j hj => by omega, .inr (by simpa using hg)⟩

/-- After n minutes more than 'first' at least 'bar' is left. -/
def okAt (v b rate first bar : Int) (n : Nat) : Bool := aftOk v b (rate * (first + n)) && decide (bar ≤ aftN v b (rate * (first + n)))
theorem okAt_mono {v b rate first bar : Int} (hr : 0 ≤ rate) {m n : Nat} (h : m ≤ n) (hn : okAt v b rate first bar n = true) : okAt v b rate first bar m = true := by
  simp only [okAt, aftOk, Bool.and_eq_true, decide_eq_true_eq] at hn ⊢
  have h1 : rate * (first + m) ≤ rate * (first + n) := Int.mul_le_mul_of_nonneg_left (by omega) hr
  have := aftN_anti h1 hn.1
  omega
/-- The greatest number of minutes, up to 600, or -1. -/
def timeF (v b rate first bar : Int) : Int := (lead (okAt v b rate first bar) 601 : Nat) - 1
theorem timeF_bd (v b rate first bar : Int) : -1 ≤ timeF v b rate first bar ∧ timeF v b rate first bar ≤ 600 := by
  unfold timeF
  have := (lead_spec (okAt v b rate first bar) 601).1
  omega
theorem timeF_of {v b rate first bar : Int} {k : Nat} (hk : k ≤ 601) (h : ∀ j, j < k → okAt v b rate first bar j = true) (he : k = 601 ∨ okAt v b rate first bar k = false) : timeF v b rate first bar = (k : Int) - 1 := by
  unfold timeF
  rw [lead_eq hk h he]

/-- A rate between two checks, rounded up. -/
def upF (a b : Int) : Int := (a + b - 1) / b
theorem upF_bd {a d : Int} (ha : 0 ≤ a) (ha' : a ≤ 95100) (hd : 1 ≤ d) : 0 ≤ upF a d ∧ upF a d ≤ 95100 := by
  unfold upF
  refine ⟨Int.ediv_nonneg (by omega) (by omega), ?_⟩
  have h1 : (a + d - 1) / d < 95101 := by
    rw [Int.ediv_lt_iff_lt_mul (by omega)]
    have h2 : 95101 * 1 ≤ 95101 * d := Int.mul_le_mul_of_nonneg_left hd (by omega)
    have h3 : 95101 * d = 95100 * d + d := by omega
    have h4 : 95100 * 1 ≤ 95100 * d := Int.mul_le_mul_of_nonneg_left hd (by omega)
    omega
  omega

end Go.Proofs.YtpckhpkbdanjoaaDoor

/-
  Plain laws on lists given by an index: the first that is so, how many are so. No program in sight.-/
namespace Go.Proofs.YtpckhpkbdanjoaaDoor
set_option linter.unusedVariables false
set_option linter.unusedSimpArgs false

/-- The first of n that is so, or -1. -/
def fstI (p : Nat → Bool) (n : Nat) : Int := if lead (fun i => !p i) n < n then (lead (fun i => !p i) n : Nat) else -1
theorem fstI_at {p : Nat → Bool} {n k : Nat} (hk : k < n) (hj : ∀ j, j < k → p j = false) (h : p k = true) : fstI p n = k := by
  have := lead_eq (g := fun i => !p i) (N := n) (k := k) (by omega) (fun j hj' => by simp [hj j hj']) (.inr (by simp [h]))
  rw [fstI, this, if_pos hk]
theorem fstI_none {p : Nat → Bool} {n : Nat} (hj : ∀ j, j < n → p j = false) : fstI p n = -1 := by
  have := lead_eq (g := fun i => !p i) (N := n) (k := n) (by omega) (fun j hj' => by simp [hj j hj']) (.inl rfl)
  rw [fstI, this, if_neg (by omega)]
theorem fstI_neg {p : Nat → Bool} {n : Nat} : decide (0 ≤ fstI p n) = !allB (fun i => !p i) n := by
  obtain ⟨h1, h2, h3⟩ := lead_spec (fun i => !p i) n
  unfold fstI
  split
  · rename_i h
    have h4 : (fun i => !p i) (lead (fun i => !p i) n) = false := by
      rcases h3 with h3 | h3
      · omega
      · exact h3
    rw [allB_false h h4]
    simp
  · rename_i h
    rw [allB_iff.2 fun i hi => h2 i (by omega)]
    simp

theorem fstI_bd (p : Nat → Bool) (n : Nat) : -1 ≤ fstI p n ∧ fstI p n < n ∨ n = 0 ∧ fstI p n = -1 := by
  unfold fstI
  split <;> omega
/-- Either none is so, or the first is known. -/
theorem fstI_cases (p : Nat → Bool) (n : Nat) : (fstI p n = -1 ∧ ∀ j, j < n → p j = false) ∨ ∃ k, k < n ∧ fstI p n = k ∧ p k = true ∧ ∀ j, j < k → p j = false := by
  obtain ⟨h1, h2, h3⟩ := lead_spec (fun i => !p i) n
  unfold fstI
  split
  · rename_i h
    right
    refine ⟨_, h, rfl, ?_, fun j hj => by simpa using h2 j hj⟩
    rcases h3 with h3 | h3
    · omega
    · simpa using h3
  · rename_i h
    left
    exact ⟨rfl, fun j hj => by simpa using h2 j (by omega)⟩
def cntF (p : Nat → Bool) : Nat → Nat
  | 0 => 0
  | n + 1 => cntF p n + if p n = true then 1 else 0
theorem cntF_le (p : Nat → Bool) (n : Nat) : cntF p n ≤ n := by
  induction n with
  | zero => simp [cntF]
  | succ n ih => unfold cntF; split <;> omega
theorem cntF_mono (p : Nat → Bool) {m n : Nat} (h : m ≤ n) : cntF p m ≤ cntF p n := by
  induction n with
  | zero => have : m = 0 := by omega
            subst this; exact Nat.le_refl _
  | succ n ih =>
    rcases Nat.lt_or_ge m (n + 1) with h1 | h1
    · have h2 := ih (by omega)
      have h3 : cntF p (n + 1) = cntF p n + if p n = true then 1 else 0 := rfl
      omega
    · have : m = n + 1 := by omega
      subst this; exact Nat.le_refl _

end Go.Proofs.YtpckhpkbdanjoaaDoor

/-
  Walks: the smallest functions: bounds, the lesser, the greater, a quotient rounded up.-/
namespace Go.Proofs.YtpckhpkbdanjoaaDoor
set_option linter.unusedVariables false
set_option linter.unusedSimpArgs false
open Go.RowKit

set_option maxHeartbeats 400000 in
theorem inside_any (n a b : Int) (w : World) :
    Calls Tryd.prog 68 #[.int .i64 n, .int .i64 a, .int .i64 b] w fun e w' => e = .returned (.bool (inB n a b)) ∧ w = w' := by
  go_enter Tryd.func68, Tryd.ntmps68
  go_wp2
  all_goals (go_ret; rename_i h)
  · exact ⟨ret_bool (by simp [inB, h]), rfl⟩
  · exact ⟨ret_bool (by simp [inB]; omega), rfl⟩
set_option maxHeartbeats 400000 in
theorem l1In_any (n a b : Int) (w : World) :
    Calls Tryd.prog 66 #[.int .i64 n, .int .i64 a, .int .i64 b] w fun e w' => e = .returned (.bool (inB n a b)) ∧ w = w' := by
  go_enter Tryd.func66, Tryd.ntmps66
  go_wp2
  all_goals (go_ret; rename_i h)
  · exact ⟨ret_bool (by simp [inB, h]), rfl⟩
  · exact ⟨ret_bool (by simp [inB]; omega), rfl⟩

end Go.Proofs.YtpckhpkbdanjoaaDoor

/-
  Walks: names.-/
namespace Go.Proofs.YtpckhpkbdanjoaaDoor
set_option linter.unusedVariables false
set_option linter.unusedSimpArgs false
open Go.RowKit

def byteAt (s : ByteArray) (i : Nat) : Int := if h : i < s.size then (s[i].toNat : Int) else 0
def lowB (c : Int) : Bool := decide (97 ≤ c) && decide (c ≤ 122)
def digB (c : Int) : Bool := decide (48 ≤ c) && decide (c ≤ 57)
def nm1 (s : ByteArray) (i : Nat) : Bool := lowB (byteAt s i) || (digB (byteAt s i) && !decide (i = 0))
def nameB (s : ByteArray) : Bool := allB (nm1 s) s.size && inB s.size 1 6
theorem byteAt_eq {s : ByteArray} {i : Nat} (h : i < s.size) : (s[i].toNat : Int) = byteAt s i := by simp [byteAt, h]
theorem nameB_no {s : ByteArray} {k : Nat} (hk : k < s.size) (h : nm1 s k = false) : nameB s = false := by rw [nameB, allB_false hk h]; rfl

/-- Where a byte lies among digits and letters. -/
theorem byte_cases (c : Int) : (c < 48) ∨ (48 ≤ c ∧ c ≤ 57) ∨ (57 < c ∧ c < 97) ∨ (97 ≤ c ∧ c ≤ 122) ∨ 122 < c := by omega
theorem nm1_no1 {s : ByteArray} {i : Nat} (h : byteAt s i < 48) : nm1 s i = false := by simp [nm1, lowB, digB]; omega
theorem nm1_no2 {s : ByteArray} {i : Nat} (h : 57 < byteAt s i) (h' : byteAt s i < 97) : nm1 s i = false := by simp [nm1, lowB, digB]; omega
theorem nm1_no3 {s : ByteArray} {i : Nat} (h : 122 < byteAt s i) : nm1 s i = false := by simp [nm1, lowB, digB]; omega
theorem nm1_low {s : ByteArray} {i : Nat} (h : 97 ≤ byteAt s i) (h' : byteAt s i ≤ 122) : nm1 s i = true := by simp [nm1, lowB, digB]; omega
theorem nm1_dig {s : ByteArray} {i : Nat} (h : 48 ≤ byteAt s i) (h' : byteAt s i ≤ 57) (h0 : 0 < i) : nm1 s i = true := by simp [nm1, lowB, digB]; omega
theorem nm1_dig0 {s : ByteArray} {i : Nat} (h : 48 ≤ byteAt s i) (h' : byteAt s i ≤ 57) (h0 : i = 0) : nm1 s i = false := by subst h0; simp [nm1, lowB, digB]; omega


end Go.Proofs.YtpckhpkbdanjoaaDoor

/-
  Plain words for floors: rows of open cells and walls; cells, steps. No program in sight.-/
namespace Go.Proofs.YtpckhpkbdanjoaaDoor
set_option linter.unusedVariables false
set_option linter.unusedSimpArgs false

/-- How great the argument is. -/
def ffits (F : Nat → ByteArray) (n : Nat) : Prop := n ≤ 1048576 ∧ ∀ i, i < n → (F i).size ≤ maxLen
/-- An open cell or a wall. -/
def cel (s : ByteArray) (i : Nat) : Bool := decide (byteAt s i = 46) || decide (byteAt s i = 35)
def rowB (F : Nat → ByteArray) (r : Nat) : Bool := decide ((F r).size = (F 0).size) && allB (cel (F r)) (F r).size
def flB (F : Nat → ByteArray) (n : Nat) : Bool := inB n 1 12 && inB (F 0).size 1 12 && allB (rowB F) n
/-- A cell of the floor that is open. -/
def opB (F : Nat → ByteArray) (n : Nat) (r c : Int) : Bool := inB r 0 ((n : Int) - 1) && inB c 0 (((F 0).size : Int) - 1) && decide (byteAt (F r.toNat) c.toNat = 46)
theorem cel_no {s : ByteArray} {i : Nat} (h : byteAt s i ≠ 46) (h' : byteAt s i ≠ 35) : cel s i = false := by simp [cel, h, h']
theorem cel_iff {s : ByteArray} {i : Nat} : cel s i = true ↔ byteAt s i = 46 ∨ byteAt s i = 35 := by simp [cel]
theorem flB_no {F : Nat → ByteArray} {n k : Nat} (hk : k < n) (h : rowB F k = false) : flB F n = false := by rw [flB, allB_false hk h]; simp
theorem flB_facts {F : Nat → ByteArray} {n : Nat} (h : flB F n = true) : 1 ≤ n ∧ n ≤ 12 ∧ 1 ≤ (F 0).size ∧ (F 0).size ≤ 12 ∧ (∀ i, i < n → (F i).size = (F 0).size) ∧ ∀ i j, i < n → j < (F 0).size → byteAt (F i) j = 46 ∨ byteAt (F i) j = 35 := by
  simp only [flB, Bool.and_eq_true, inB_iff, allB_iff] at h
  obtain ⟨⟨h1, h2⟩, h3⟩ := h
  have h4 : ∀ i, i < n → (F i).size = (F 0).size ∧ ∀ j, j < (F i).size → cel (F i) j = true := fun i hi => by
    have := h3 i hi
    simpa only [rowB, Bool.and_eq_true, decide_eq_true_eq, allB_iff] using this
  exact ⟨by omega, by omega, by omega, by omega, fun i hi => (h4 i hi).1, fun i j hi hj => cel_iff.1 ((h4 i hi).2 j (by rw [(h4 i hi).1]; exact hj))⟩
theorem opB_iff {F : Nat → ByteArray} {n : Nat} {r c : Int} : opB F n r c = true ↔ (0 ≤ r ∧ r < n) ∧ (0 ≤ c ∧ c < (F 0).size) ∧ byteAt (F r.toNat) c.toNat = 46 := by
  simp only [opB, Bool.and_eq_true, inB_iff, decide_eq_true_eq, and_assoc]
  constructor
  · rintro ⟨h1, h2, h3, h4, h5⟩; exact ⟨h1, by omega, h3, by omega, h5⟩
  · rintro ⟨h1, h2, h3, h4, h5⟩; exact ⟨h1, by omega, h3, by omega, h5⟩
theorem opB_nat {F : Nat → ByteArray} {n : Nat} {r c : Int} (h : opB F n r c = true) : ∃ i j : Nat, r = i ∧ c = j ∧ i < n ∧ j < (F 0).size ∧ byteAt (F i) j = 46 := by
  obtain ⟨h1, h2, h3⟩ := opB_iff.1 h
  exact ⟨r.toNat, c.toNat, by omega, by omega, by omega, by omega, h3⟩
/-- A step in a direction: 0 up, 1 right, 2 down, 3 left. -/
def dR (d : Nat) : Int := if d = 0 then -1 else if d = 2 then 1 else 0
def dC (d : Nat) : Int := if d = 1 then 1 else if d = 3 then -1 else 0
def stp (p : Int × Int) (d : Nat) : Int × Int := (p.1 + dR d, p.2 + dC d)
def opP (F : Nat → ByteArray) (n : Nat) (p : Int × Int) : Bool := opB F n p.1 p.2
/-- The number of a cell in order. -/
def ixF (F : Nat → ByteArray) (p : Int × Int) : Nat := (p.1 * ((F 0).size : Int) + p.2).toNat
theorem opP_bd {F : Nat → ByteArray} {n : Nat} {p : Int × Int} (h : opP F n p = true) : 0 ≤ p.1 ∧ p.1 < n ∧ 0 ≤ p.2 ∧ p.2 < (F 0).size := by
  obtain ⟨h1, h2, _⟩ := opB_iff.1 h
  exact ⟨h1.1, h1.2, h2.1, h2.2⟩
theorem dR_bd (d : Nat) : -1 ≤ dR d ∧ dR d ≤ 1 := by unfold dR; split <;> (try split) <;> omega
theorem dC_bd (d : Nat) : -1 ≤ dC d ∧ dC d ≤ 1 := by unfold dC; split <;> (try split) <;> omega
theorem ix_lt' {W n : Nat} {r c : Int} (h1 : 0 ≤ r) (h2 : r < n) (h3 : 0 ≤ c) (h4 : c < W) : 0 ≤ r * W + c ∧ r * W + c < ((n * W : Nat) : Int) := by
  have a1 : 0 ≤ r * (W : Int) := Int.mul_nonneg h1 (by omega)
  have a2 : (r + 1) * (W : Int) ≤ (n : Int) * W := Int.mul_le_mul_of_nonneg_right (by omega) (by omega)
  rw [Int.add_mul, Int.one_mul] at a2
  rw [Int.natCast_mul]
  omega
theorem ix_lt {F : Nat → ByteArray} {n : Nat} {p : Int × Int} (h : opP F n p = true) : ixF F p < n * (F 0).size := by
  obtain ⟨h1, h2, h3, h4⟩ := opP_bd h
  have := ix_lt' h1 h2 h3 h4
  unfold ixF
  omega
theorem ix_cast {F : Nat → ByteArray} {n : Nat} {p : Int × Int} (h : opP F n p = true) : p.1 * ((F 0).size : Int) + p.2 = (ixF F p : Int) := by
  obtain ⟨h1, h2, h3, h4⟩ := opP_bd h
  have := ix_lt' h1 h2 h3 h4
  unfold ixF
  omega
/-- Numbers tell cells. -/
theorem ix_inj' {W : Int} {r c r' c' : Int} (h3 : 0 ≤ c) (h4 : c < W) (h3' : 0 ≤ c') (h4' : c' < W) (e : r * W + c = r' * W + c') : r = r' ∧ c = c' := by
  have hr : r = r' := by
    rcases Int.lt_trichotomy r r' with h | h | h
    · have := Int.mul_le_mul_of_nonneg_right (show r + 1 ≤ r' by omega) (show 0 ≤ W by omega)
      rw [Int.add_mul, Int.one_mul] at this
      omega
    · exact h
    · have := Int.mul_le_mul_of_nonneg_right (show r' + 1 ≤ r by omega) (show 0 ≤ W by omega)
      rw [Int.add_mul, Int.one_mul] at this
      omega
  subst hr
  exact ⟨rfl, by omega⟩
theorem ix_inj {F : Nat → ByteArray} {n : Nat} {p p' : Int × Int} (h : opP F n p = true) (h' : opP F n p' = true) (e : ixF F p = ixF F p') : p = p' := by
  have e1 := ix_cast h
  have e2 := ix_cast h'
  obtain ⟨a1, a2, a3, a4⟩ := opP_bd h
  obtain ⟨b1, b2, b3, b4⟩ := opP_bd h'
  have := ix_inj' (W := (F 0).size) a3 a4 b3 b4 (by rw [e1, e2, e])
  exact Prod.ext this.1 this.2

end Go.Proofs.YtpckhpkbdanjoaaDoor

/-
  Plain words: steps from a cell to all cells, as both texts reckon them: one cell behind the other, its four neighbours in order. No program in sight.-/
namespace Go.Proofs.YtpckhpkbdanjoaaDoor
set_option linter.unusedVariables false
set_option linter.unusedSimpArgs false

def updI (o : Nat → Int) (i : Nat) (x : Int) : Nat → Int := fun j => if j = i then x else o j
def updP (q : Nat → Int × Int) (i : Nat) (x : Int × Int) : Nat → Int × Int := fun j => if j = i then x else q j
/-- The steps so far; the cells in the order in which they are reached, and how many. -/
structure Bs where
  o : Nat → Int
  q : Nat → Int × Int
  m : Nat
/-- The neighbour of p in the direction d is reached first from p. -/
def pshB (F : Nat → ByteArray) (n : Nat) (p : Int × Int) (d : Nat) (s : Bs) : Bool := opP F n (stp p d) && decide (s.o (ixF F (stp p d)) < 0)
def psh (F : Nat → ByteArray) (n : Nat) (p : Int × Int) (d : Nat) (s : Bs) : Bs :=
  if pshB F n p d s = true then ⟨updI s.o (ixF F (stp p d)) (s.o (ixF F p) + 1), updP s.q s.m (stp p d), s.m + 1⟩ else s
def pshN (F : Nat → ByteArray) (n : Nat) (p : Int × Int) : Nat → Bs → Bs
  | 0, s => s
  | d + 1, s => psh F n p d (pshN F n p d s)
/-- So many rounds at most: cell k and those behind it. -/
def bfs (F : Nat → ByteArray) (n : Nat) : Nat → Nat → Bs → Bs
  | 0, _, s => s
  | f + 1, k, s => if k < s.m then bfs F n f (k + 1) (pshN F n (s.q k) 4 s) else s
def bs0 (F : Nat → ByteArray) (a : Int × Int) : Bs := ⟨updI (fun _ => -1) (ixF F a) 0, fun _ => a, 1⟩
def bsF (F : Nat → ByteArray) (n : Nat) (a : Int × Int) : Bs := bfs F n (n * (F 0).size) 0 (bs0 F a)
/-- The steps from a cell, by the number of the other one. -/
def stF (F : Nat → ByteArray) (n : Nat) (a : Int × Int) : Nat → Int := (bsF F n a).o
/-- What holds all along. -/
structure BInv (F : Nat → ByteArray) (n : Nat) (a : Int × Int) (s : Bs) : Prop where
  hq : ∀ i, i < s.m → opP F n (s.q i) = true ∧ 0 ≤ s.o (ixF F (s.q i))
  hb : ∀ j, -1 ≤ s.o j ∧ s.o j < s.m
  hc : s.m + cntF (fun j => decide (s.o j < 0)) (n * (F 0).size) = n * (F 0).size
  ha : opP F n a = true
  h0 : s.o (ixF F a) = 0
  hp : ∀ j, 0 ≤ s.o j → ∃ p, opP F n p = true ∧ ixF F p = j ∧ (p = a ∨ 1 ≤ s.o j ∧ ∃ d, d < 4 ∧ opP F n (stp p d) = true ∧ s.o (ixF F (stp p d)) + 1 = s.o j)
/-- Back again. -/
def opd (d : Nat) : Nat := if d = 0 then 2 else if d = 1 then 3 else if d = 2 then 0 else 1
theorem opd_lt (d : Nat) : opd d < 4 := by unfold opd; split <;> (try split) <;> (try split) <;> omega
theorem stp_opd {p : Int × Int} {d : Nat} (hd : d < 4) : stp (stp p d) (opd d) = p := by
  have : d = 0 ∨ d = 1 ∨ d = 2 ∨ d = 3 := by omega
  rcases this with rfl | rfl | rfl | rfl <;> (apply Prod.ext <;> simp [stp, opd, dR, dC] <;> omega)
theorem cnt_upd {o : Nat → Int} {i N : Nat} {x : Int} (hi : i < N) (h : o i < 0) (hx : 0 ≤ x) : cntF (fun j => decide (updI o i x j < 0)) N + 1 = cntF (fun j => decide (o j < 0)) N := by
  induction N with
  | zero => omega
  | succ N ih =>
    simp only [cntF]
    rcases Nat.lt_or_ge i N with h1 | h1
    · have h2 := ih h1
      have h3 : updI o i x N = o N := by simp [updI]; omega
      simp only [h3]
      omega
    · obtain rfl : i = N := by omega
      have h2 : cntF (fun j => decide (updI o i x j < 0)) i = cntF (fun j => decide (o j < 0)) i := by
        clear ih hi
        have : ∀ M, M ≤ i → cntF (fun j => decide (updI o i x j < 0)) M = cntF (fun j => decide (o j < 0)) M := by
          intro M
          induction M with
          | zero => intro _; rfl
          | succ M ih =>
            intro hM
            simp only [cntF]
            rw [ih (by omega)]
            have h3 : updI o i x M = o M := by simp [updI]; omega
            simp only [h3]
        exact this i (Nat.le_refl _)
      rw [h2]
      have h3 : updI o i x i = x := by simp [updI]
      simp only [h3]
      have h4 : decide (x < 0) = false := decide_eq_false (by omega)
      have h5 : decide (o i < 0) = true := decide_eq_true h
      simp [h4, h5]
section
variable {F : Nat → ByteArray} {n : Nat} {a p : Int × Int} {d : Nat} {s : Bs}
theorem BInv.psh (h : BInv F n a s) (hp : opP F n p = true) (h0 : 0 ≤ s.o (ixF F p)) (hd : d < 4) : BInv F n a (psh F n p d s) ∧ 0 ≤ (Go.Proofs.YtpckhpkbdanjoaaDoor.psh F n p d s).o (ixF F p) ∧ s.m ≤ (Go.Proofs.YtpckhpkbdanjoaaDoor.psh F n p d s).m ∧ ∀ i, i < s.m → (Go.Proofs.YtpckhpkbdanjoaaDoor.psh F n p d s).q i = s.q i := by
  unfold Go.Proofs.YtpckhpkbdanjoaaDoor.psh
  split
  · rename_i hc
    simp only [pshB, Bool.and_eq_true, decide_eq_true_eq] at hc
    obtain ⟨ho, hneg⟩ := hc
    have hlt := ix_lt ho
    have hpb := h.hb (ixF F p)
    have keep : ∀ j, 0 ≤ s.o j → updI s.o (ixF F (stp p d)) (s.o (ixF F p) + 1) j = s.o j := fun j hj => by
      simp only [updI]
      split
      · rename_i e
        subst e
        omega
      · rfl
    refine ⟨⟨?_, ?_, ?_, h.ha, ?_, ?_⟩, ?_, Nat.le_succ _, ?_⟩
    · intro i hi
      simp only [updP]
      split
      · refine ⟨ho, ?_⟩
        simp [updI]
        omega
      · have h1 := h.hq i (by simp at hi; omega)
        exact ⟨h1.1, by rw [keep _ h1.2]; exact h1.2⟩
    · intro j
      have h1 := h.hb j
      simp only [updI]
      split <;> omega
    · have h1 := h.hc
      have h2 := cnt_upd (o := s.o) (x := s.o (ixF F p) + 1) hlt hneg (by omega)
      simp only
      omega
    · show updI _ _ _ _ = 0
      rw [keep _ (by rw [h.h0]; omega)]
      exact h.h0
    · intro j hj
      simp only at hj ⊢
      by_cases e : j = ixF F (stp p d)
      · refine ⟨stp p d, ho, e.symm, .inr ⟨?_, opd d, opd_lt d, ?_, ?_⟩⟩
        · simp [updI, e]; omega
        · rw [stp_opd hd]; exact hp
        · rw [stp_opd hd, keep _ h0]
          simp [updI, e]
      · have ej : updI s.o (ixF F (stp p d)) (s.o (ixF F p) + 1) j = s.o j := by simp [updI, e]
        rw [ej] at hj ⊢
        obtain ⟨x, h1, h2, h3⟩ := h.hp j hj
        refine ⟨x, h1, h2, h3.imp id fun ⟨h4, d', h5, h6, h7⟩ => ⟨h4, d', h5, h6, ?_⟩⟩
        rw [keep _ (by omega)]
        exact h7
    · show 0 ≤ updI _ _ _ _
      rw [keep _ h0]
      exact h0
    · intro i hi
      simp only [updP]
      rw [if_neg (by omega)]
  · exact ⟨h, h0, Nat.le_refl _, fun _ _ => rfl⟩
theorem BInv.pshN (h : BInv F n a s) (hp : opP F n p = true) (h0 : 0 ≤ s.o (ixF F p)) : ∀ {d : Nat}, d ≤ 4 → BInv F n a (pshN F n p d s) ∧ 0 ≤ (Go.Proofs.YtpckhpkbdanjoaaDoor.pshN F n p d s).o (ixF F p) ∧ s.m ≤ (Go.Proofs.YtpckhpkbdanjoaaDoor.pshN F n p d s).m ∧ ∀ i, i < s.m → (Go.Proofs.YtpckhpkbdanjoaaDoor.pshN F n p d s).q i = s.q i
  | 0, _ => ⟨h, h0, Nat.le_refl _, fun _ _ => rfl⟩
  | d + 1, hd => by
    obtain ⟨h1, h2, h3, h5⟩ := h.pshN hp h0 (d := d) (by omega)
    obtain ⟨h4, h6, h7, h8⟩ := h1.psh hp h2 (d := d) (by omega)
    exact ⟨h4, h6, Nat.le_trans h3 h7, fun i hi => (h8 i (by omega)).trans (h5 i hi)⟩
theorem BInv.m_le (h : BInv F n a s) : s.m ≤ n * (F 0).size := by have := h.hc; omega
theorem BInv.m_lt (h : BInv F n a s) {j : Nat} (hj : j < n * (F 0).size) (hn : s.o j < 0) : s.m < n * (F 0).size := by
  have h1 := h.hc
  have : 0 < cntF (fun j => decide (s.o j < 0)) (n * (F 0).size) := by
    have h2 : cntF (fun j => decide (s.o j < 0)) (j + 1) ≤ cntF (fun j => decide (s.o j < 0)) (n * (F 0).size) := cntF_mono _ hj
    have h3 : decide (s.o j < 0) = true := decide_eq_true hn
    simp only [cntF, h3, if_true] at h2
    omega
  omega
theorem BInv.start (ha : opP F n a = true) : BInv F n a (bs0 F a) := by
  have hlt := ix_lt ha
  have hcn : ∀ M, cntF (fun j => decide ((-1 : Int) < 0)) M = M := by
    intro M
    induction M with
    | zero => rfl
    | succ M ih => simp only [cntF] at *; rw [ih]; simp
  refine ⟨?_, ?_, ?_, ha, ?_, ?_⟩
  · intro i _
    exact ⟨ha, by simp [bs0, updI]⟩
  · intro j
    simp only [bs0, updI]
    split <;> simp
  · have h1 := (cnt_upd (o := fun _ => -1) (x := 0) hlt (by simp) (Int.le_refl 0)).trans (hcn (n * (F 0).size))
    exact (Nat.add_comm _ _).trans h1
  · simp [bs0, updI]
  · intro j hj
    simp only [bs0, updI] at hj
    split at hj
    · rename_i e
      exact ⟨a, ha, e.symm, .inl rfl⟩
    · omega
/-- Behind the last cell nothing more happens. -/
theorem bfs_done {f k : Nat} (h : ¬ k < s.m) : bfs F n f k s = s := by
  cases f with
  | zero => rfl
  | succ f => rw [bfs, if_neg h]
theorem bfs_next {f k : Nat} (h : k < s.m) : bfs F n (f + 1) k s = bfs F n f (k + 1) (pshN F n (s.q k) 4 s) := by rw [bfs, if_pos h]
theorem bfs_inv : ∀ (f k : Nat) (s : Bs), BInv F n a s → n * (F 0).size ≤ f + k → BInv F n a (bfs F n f k s) ∧ ∀ j, 0 ≤ s.o j → (bfs F n f k s).o j = s.o j
  | 0, k, s, h, _ => ⟨h, fun _ _ => rfl⟩
  | f + 1, k, s, h, hf => by
    by_cases hk : k < s.m
    · rw [bfs_next hk]
      obtain ⟨h1, h2⟩ := h.hq k hk
      obtain ⟨h3, _⟩ := h.pshN h1 h2 (Nat.le_refl 4)
      obtain ⟨h5, h6⟩ := bfs_inv f (k + 1) _ h3 (by omega)
      have hkeep : ∀ d, d ≤ 4 → ∀ j, 0 ≤ s.o j → (pshN F n (s.q k) d s).o j = s.o j := by
        intro d
        induction d with
        | zero => intro _ j _; rfl
        | succ d ih =>
          intro hd j hj
          have e1 := ih (by omega) j hj
          show (psh F n (s.q k) d (pshN F n (s.q k) d s)).o j = s.o j
          unfold psh
          split
          · rename_i hc
            simp only [pshB, Bool.and_eq_true, decide_eq_true_eq] at hc
            simp only [updI]
            split
            · rename_i e
              rw [← e, e1] at hc
              omega
            · exact e1
          · exact e1
      exact ⟨h5, fun j hj => by rw [h6 j (by rw [hkeep 4 (Nat.le_refl _) j hj]; exact hj)]; exact hkeep 4 (Nat.le_refl _) j hj⟩
    · rw [bfs_done hk]
      exact ⟨h, fun _ _ => rfl⟩
theorem stF_inv (ha : opP F n a = true) : BInv F n a (bsF F n a) := (bfs_inv _ _ _ (BInv.start ha) (by omega)).1
/-- A cell that is reached is the first one, or has a neighbour one step nearer. -/
theorem stF_near (ha : opP F n a = true) (hp : opP F n p = true) (h : 0 ≤ stF F n a (ixF F p)) : p = a ∨ 1 ≤ stF F n a (ixF F p) ∧ ∃ d, d < 4 ∧ opP F n (stp p d) = true ∧ stF F n a (ixF F (stp p d)) + 1 = stF F n a (ixF F p) := by
  obtain ⟨x, h1, h2, h3⟩ := (stF_inv ha).hp _ h
  obtain rfl := ix_inj h1 hp h2
  exact h3
theorem stF_zero (ha : opP F n a = true) : stF F n a (ixF F a) = 0 := (stF_inv ha).h0
theorem stF_bd (ha : opP F n a = true) (j : Nat) : -1 ≤ stF F n a j ∧ stF F n a j < (n * (F 0).size : Nat) := by
  have h1 := (stF_inv ha).hb j
  have h2 := (stF_inv ha).m_le
  exact ⟨h1.1, by show (bsF F n a).o j < _; omega⟩
theorem stF_wall (ha : opP F n a = true) {j : Nat} (h : 0 ≤ stF F n a j) : ∃ p, opP F n p = true ∧ ixF F p = j := by
  obtain ⟨x, h1, h2, _⟩ := (stF_inv ha).hp _ h
  exact ⟨x, h1, h2⟩
end

end Go.Proofs.YtpckhpkbdanjoaaDoor

/-
  Plain words: the floor with the letters of the nearest starts. No program in sight.-/
namespace Go.Proofs.YtpckhpkbdanjoaaDoor
set_option linter.unusedVariables false
set_option linter.unusedSimpArgs false

/-- The first start with the least number of steps to a place, among the first j; or -1. -/
def shJ (st : Nat → Nat → Int) (i : Nat) : Nat → Int
  | 0 => -1
  | j + 1 => if 0 ≤ st j i ∧ (shJ st i j < 0 ∨ st j i < st (shJ st i j).toNat i) then (j : Nat) else shJ st i j
theorem shJ_bd (st : Nat → Nat → Int) (i : Nat) : ∀ j, -1 ≤ shJ st i j ∧ shJ st i j < j
  | 0 => by simp [shJ]
  | j + 1 => by
    have := shJ_bd st i j
    rw [shJ]
    split <;> omega
theorem shJ_yes {st : Nat → Nat → Int} {i j : Nat} (h : 0 ≤ st j i) (h' : shJ st i j < 0 ∨ st j i < st (shJ st i j).toNat i) : shJ st i (j + 1) = (j : Nat) := by rw [shJ, if_pos ⟨h, h'⟩]
theorem shJ_no {st : Nat → Nat → Int} {i j : Nat} (h : ¬ (0 ≤ st j i ∧ (shJ st i j < 0 ∨ st j i < st (shJ st i j).toNat i))) : shJ st i (j + 1) = shJ st i j := by rw [shJ, if_neg h]
/-- The byte at a place. -/
def shB (F : Nat → ByteArray) (st : Nat → Nat → Int) (m r k : Nat) : Int := if shJ st (r * (F 0).size + k) m < 0 then byteAt (F r) k else 97 + shJ st (r * (F 0).size + k) m
def shL (F : Nat → ByteArray) (st : Nat → Nat → Int) (m r k : Nat) : List Int := (List.range k).map (shB F st m r)
theorem shL_next (F : Nat → ByteArray) (st : Nat → Nat → Int) (m r k : Nat) : shL F st m r (k + 1) = shL F st m r k ++ [shB F st m r k] := by
  rw [shL, shL, List.range_succ, List.map_append]; rfl
theorem shL_len (F : Nat → ByteArray) (st : Nat → Nat → Int) (m r k : Nat) : (shL F st m r k).length = k := by simp [shL]
theorem nums_app (xs ys : List Int) : strOfNums (xs ++ ys) = strOfNums xs ++ strOfNums ys := by
  simp [strOfNums]
  rfl
/-- One row. -/
def shR (F : Nat → ByteArray) (st : Nat → Nat → Int) (m r : Nat) : ByteArray := strOfNums (shL F st m r (F 0).size)
theorem byteAt_bd (s : ByteArray) (i : Nat) : 0 ≤ byteAt s i ∧ byteAt s i ≤ 255 := by
  by_cases h : i < s.size
  · have h1 := byteAt_eq h
    have h2 := (s[i]'h).toNat_lt
    omega
  · have h1 : byteAt s i = 0 := by
      unfold byteAt
      simp [h]
    omega
theorem abc_at {d : Nat} (h : d < 8) : (⟨#[97, 98, 99, 100, 101, 102, 103, 104]⟩ : ByteArray).extract d (d + 1) = strOfNums [97 + (d : Int)] := by
  have h8 : d = 0 ∨ d = 1 ∨ d = 2 ∨ d = 3 ∨ d = 4 ∨ d = 5 ∨ d = 6 ∨ d = 7 := by omega
  rcases h8 with rfl | rfl | rfl | rfl | rfl | rfl | rfl | rfl <;> rfl
theorem one_at {s : ByteArray} {k : Nat} (h : k < s.size) : s.extract k (k + 1) = strOfNums [byteAt s k] := by
  apply ByteArray.ext
  rw [ByteArray.data_extract, ← byteAt_eq h]
  apply Array.ext
  · simp [strOfNums]
    have : s.data.size = s.size := rfl
    omega
  · intro i h1 h2
    have hi : i = 0 := by
      simp [strOfNums] at h2
      omega
    subst hi
    simp [strOfNums]
    rfl

end Go.Proofs.YtpckhpkbdanjoaaDoor

/-
  Lists of the places that pass a test; rows of the call's own that hold them.-/
namespace Go.Proofs.YtpckhpkbdanjoaaDoor
set_option linter.unusedVariables false
set_option linter.unusedSimpArgs false
open Go.RowKit

/-- The first n that are so. -/
def flt (p : Nat → Bool) : Nat → List Nat
  | 0 => []
  | k + 1 => flt p k ++ if p k = true then [k] else []
theorem flt_len (p : Nat → Bool) : ∀ n, (flt p n).length ≤ n
  | 0 => by simp [flt]
  | k + 1 => by
    have := flt_len p k
    rw [flt, List.length_append]
    split <;> simp <;> omega
theorem flt_yes {p : Nat → Bool} {k : Nat} (h : p k = true) : flt p (k + 1) = flt p k ++ [k] := by rw [flt, if_pos h]
theorem flt_no {p : Nat → Bool} {k : Nat} (h : p k = false) : flt p (k + 1) = flt p k := by rw [flt, h]; simp
def fltV (p : Nat → Bool) (n : Nat) : List Value := (flt p n).map fun (i : Nat) => .int .i64 (i : Int)
def fltI (p : Nat → Bool) (n : Nat) (i : Nat) : Int := ((flt p n).getD i 0 : Nat)
theorem fltV_len (p : Nat → Bool) (n : Nat) : (fltV p n).length = (flt p n).length := by simp [fltV]
/-- A row that holds them. -/
theorem own_flt {w : World} {lo E : Nat} {v : Value} {p : Nat → Bool} {n : Nat} (h : w.ownsRow lo E 1 v (flt p n).length (fltV p n)) : Own w lo w.heap.size E 1 v (flt p n).length (flt p n).length (iC (fltI p n)) := by
  refine ⟨_, h, fun g hg => (h.lt g hg).2, fun i j hi hj => ?_⟩
  obtain rfl : j = 0 := by omega
  simp only [fltV, iC, fltI, Nat.mul_one, Nat.add_zero, List.getElem?_map]
  rw [List.getElem?_eq_getElem hi]
  simp [List.getD, List.getElem?_eq_getElem hi]
theorem row_below {w w' : World} {lo E sz n B : Nat} {v : Value} {xs : List Value} (h : w.ownsRow lo E sz v n xs) (hb : Below B w w') (hB : w.heap.size ≤ B) : w'.ownsRow lo E sz v n xs := by
  obtain ⟨hl, h1⟩ := id h
  refine ⟨hl, ?_⟩
  rcases h1 with h1 | ⟨g, cap, cur, rfl, hg, hh, r⟩
  · exact .inl h1
  · exact .inr ⟨g, cap, cur, rfl, hg, by rw [hb.block g (Nat.lt_of_lt_of_le (h.lt g rfl).2 hB)]; exact hh, r⟩
theorem row_form {w : World} {lo E sz n : Nat} {v : Value} {xs : List Value} (h : w.ownsRow lo E sz v n xs) : ∃ A cap, v = .slice A n cap := by
  rcases h.2 with ⟨h1, h2⟩ | ⟨g, cap, cur, h1, _⟩
  · exact ⟨none, 0, by rw [h1, h2]⟩
  · exact ⟨_, cap, h1⟩
/-- The texts of those places. -/
def fltT (f : Nat → ByteArray) (p : Nat → Bool) (n : Nat) : List Value := (flt p n).map fun (i : Nat) => .string (f i)
def fltS (f : Nat → ByteArray) (p : Nat → Bool) (n : Nat) (i : Nat) : ByteArray := f ((flt p n).getD i 0)
theorem own_fltS {w : World} {lo E : Nat} {v : Value} {f : Nat → ByteArray} {p : Nat → Bool} {n : Nat} (h : w.ownsRow lo E 1 v (flt p n).length (fltT f p n)) : Own w lo w.heap.size E 1 v (flt p n).length (flt p n).length (sC (fltS f p n)) := by
  refine ⟨_, h, fun g hg => (h.lt g hg).2, fun i j hi hj => ?_⟩
  obtain rfl : j = 0 := by omega
  simp only [fltT, sC, fltS, Nat.mul_one, Nat.add_zero, List.getElem?_map]
  rw [List.getElem?_eq_getElem hi]
  simp [List.getD, List.getElem?_eq_getElem hi]

end Go.Proofs.YtpckhpkbdanjoaaDoor

/-
  Plain words: a number is put into the list of the places that pass a test. No program in sight.-/
namespace Go.Proofs.YtpckhpkbdanjoaaDoor
set_option linter.unusedVariables false
set_option linter.unusedSimpArgs false

theorem flt_congr {p q : Nat → Bool} : ∀ {n : Nat}, (∀ i, i < n → p i = q i) → flt p n = flt q n
  | 0, _ => rfl
  | n + 1, h => by rw [flt, flt, flt_congr (n := n) fun i hi => h i (by omega), h n (by omega)]
theorem flt_mem {p : Nat → Bool} : ∀ {n y : Nat}, y ∈ flt p n → y < n ∧ p y = true
  | 0, _, h => by simp [flt] at h
  | n + 1, y, h => by
    rw [flt, List.mem_append] at h
    rcases h with h | h
    · have := flt_mem h
      exact ⟨by omega, this.2⟩
    · by_cases hp : p n = true
      · rw [if_pos hp] at h
        simp at h
        subst h
        exact ⟨by omega, hp⟩
      · rw [if_neg hp] at h
        simp at h
/-- What comes behind the places below x. -/
def fltR (p : Nat → Bool) (x : Nat) : Nat → List Nat
  | 0 => []
  | n + 1 => if n < x then [] else fltR p x n ++ if p n = true then [n] else []
theorem flt_split (p : Nat → Bool) (x : Nat) : ∀ n, x ≤ n → flt p n = flt p x ++ fltR p x n
  | 0, h => by
    obtain rfl : x = 0 := by omega
    rfl
  | n + 1, h => by
    rcases Nat.lt_or_ge n x with h1 | h1
    · obtain rfl : x = n + 1 := by omega
      rw [fltR, if_pos h1]
      simp
    · rw [fltR, if_neg (by omega), flt, flt_split p x n h1, List.append_assoc]
theorem fltR_ge {p : Nat → Bool} {x : Nat} : ∀ {n y : Nat}, y ∈ fltR p x n → x ≤ y
  | 0, _, h => by simp [fltR] at h
  | n + 1, y, h => by
    rw [fltR] at h
    by_cases h1 : n < x
    · rw [if_pos h1] at h
      simp at h
    · rw [if_neg h1, List.mem_append] at h
      rcases h with h | h
      · exact fltR_ge h
      · by_cases hp : p n = true
        · rw [if_pos hp] at h
          simp at h
          omega
        · rw [if_neg hp] at h
          simp at h
/-- One place more. -/
def orP (p : Nat → Bool) (x : Nat) (i : Nat) : Bool := p i || decide (i = x)
theorem orP_same {p : Nat → Bool} {x : Nat} (h : p x = true) (n : Nat) : flt (orP p x) n = flt p n := flt_congr fun i _ => by
  by_cases e : i = x
  · subst e; simp [orP, h]
  · simp [orP, e]
theorem fltR_or {p : Nat → Bool} {x : Nat} (h : p x = false) : ∀ n, x < n → fltR (orP p x) x n = x :: fltR p x n
  | 0, hn => absurd hn (Nat.not_lt_zero _)
  | n + 1, hn => by
    rw [fltR, fltR, if_neg (show ¬ n < x by omega), if_neg (show ¬ n < x by omega)]
    rcases Nat.lt_succ_iff_lt_or_eq.1 hn with h1 | rfl
    · rw [fltR_or h n h1]
      have hne : ¬ n = x := by omega
      have e : orP p x n = p n := by simp [orP, hne]
      rw [e]
      rfl
    · have e : orP p x x = true := by simp [orP]
      rw [if_pos e, h]
      have e0 : ∀ q : Nat → Bool, fltR q x x = [] := fun q => by
        cases x with
        | zero => rfl
        | succ k => rw [fltR, if_pos (Nat.lt_succ_self k)]
      rw [e0, e0]
      rfl
/-- The list with a place more: what lies below it, it, what lies above. -/
theorem flt_or {p : Nat → Bool} {x n : Nat} (h : p x = false) (hx : x < n) : flt (orP p x) n = flt p x ++ x :: fltR p x n := by
  rw [flt_split (orP p x) x n (by omega), fltR_or h n hx]
  congr 1
  exact flt_congr fun i hi => by
    have hne : ¬ i = x := by omega
    simp [orP, hne]
/-- The first number that is not below x: it is x or there is none such. -/
theorem flt_head {p : Nat → Bool} {x n : Nat} (hx : x < n) : ((flt p n)[(flt p x).length]? = some x) ↔ p x = true := by
  rw [flt_split p x n (by omega), List.getElem?_append_right (Nat.le_refl _), Nat.sub_self]
  constructor
  · intro h
    have : x ∈ flt p n := by
      rw [flt_split p x n (by omega)]
      exact List.mem_append_right _ (List.mem_of_getElem? h)
    exact (flt_mem this).2
  · intro h
    have key : ∀ n, x < n → ∃ r, fltR p x n = x :: r := by
      intro n
      induction n with
      | zero => intro hn; omega
      | succ n ih =>
        intro hn
        rw [fltR, if_neg (by omega)]
        rcases Nat.lt_succ_iff_lt_or_eq.1 hn with h1 | rfl
        · obtain ⟨r, hr⟩ := ih h1
          exact ⟨r ++ _, by rw [hr]; rfl⟩
        · have e0 : fltR p x x = [] := by
            cases x with
            | zero => rfl
            | succ k => rw [fltR, if_pos (Nat.lt_succ_self k)]
          exact ⟨[], by rw [e0, if_pos h]; rfl⟩
    obtain ⟨r, hr⟩ := key n hx
    rw [hr]
    rfl
theorem flt_below {p : Nat → Bool} {x n j : Nat} (hx : x ≤ n) (hj : j < (flt p x).length) : ∃ y, (flt p n)[j]? = some y ∧ y < x := by
  rw [flt_split p x n hx, List.getElem?_append_left hj, List.getElem?_eq_getElem hj]
  exact ⟨_, rfl, (flt_mem (List.getElem_mem hj)).1⟩
theorem flt_above {p : Nat → Bool} {x n j y : Nat} (hx : x ≤ n) (hj : (flt p x).length ≤ j) (h : (flt p n)[j]? = some y) : x ≤ y := by
  rw [flt_split p x n hx, List.getElem?_append_right hj] at h
  exact fltR_ge (List.mem_of_getElem? h)

end Go.Proofs.YtpckhpkbdanjoaaDoor

/-
  Plain words: a way with one hand at a wall. No program in sight.-/
namespace Go.Proofs.YtpckhpkbdanjoaaDoor
set_option linter.unusedVariables false
set_option linter.unusedSimpArgs false

/-- The turns in their order. -/
def trn (b : Bool) (i : Nat) : Nat := if b = true then (if i = 0 then 3 else i - 1) else (if i = 0 then 1 else if i = 1 then 0 else if i = 2 then 3 else 2)
theorem trn_lt (b : Bool) {i : Nat} (hi : i < 4) : trn b i < 4 := by
  have h : i = 0 ∨ i = 1 ∨ i = 2 ∨ i = 3 := by omega
  cases b <;> rcases h with rfl | rfl | rfl | rfl <;> decide
def hdI (b : Bool) (l i : Nat) : Nat := (l + trn b i) % 4
theorem hdI_lt (b : Bool) (l i : Nat) : hdI b l i < 4 := Nat.mod_lt _ (by omega)
/-- The direction chosen among the first k turns, or -1. -/
def hdJ (F : Nat → ByteArray) (n : Nat) (b : Bool) (p : Int × Int) (l : Nat) : Nat → Int
  | 0 => -1
  | k + 1 => if hdJ F n b p l k < 0 ∧ opP F n (stp p (hdI b l k)) = true then (hdI b l k : Nat) else hdJ F n b p l k
section
variable {F : Nat → ByteArray} {n : Nat} {b : Bool} {p : Int × Int} {l : Nat}
theorem hdJ_bd : ∀ k, -1 ≤ hdJ F n b p l k ∧ hdJ F n b p l k < 4
  | 0 => by simp [hdJ]
  | k + 1 => by
    rw [hdJ]
    split
    · have := hdI_lt b l k; omega
    · exact hdJ_bd k
theorem hdJ_no : ∀ {k : Nat}, (∀ i, i < k → opP F n (stp p (hdI b l i)) = false) → hdJ F n b p l k = -1
  | 0, _ => rfl
  | k + 1, h => by
    rw [hdJ, if_neg (by rw [h k (by omega)]; simp)]
    exact hdJ_no fun i hi => h i (by omega)
theorem hdJ_stay {k : Nat} (h : 0 ≤ hdJ F n b p l k) : ∀ {m : Nat}, k ≤ m → hdJ F n b p l m = hdJ F n b p l k
  | 0, hm => by obtain rfl : k = 0 := by omega
                rfl
  | m + 1, hm => by
    rcases Nat.lt_or_ge m k with h1 | h1
    · obtain rfl : k = m + 1 := by omega
      rfl
    · rw [hdJ, hdJ_stay h h1, if_neg (by omega)]
theorem hdJ_hit {j : Nat} (hj : j < 4) (h : ∀ i, i < j → opP F n (stp p (hdI b l i)) = false) (h1 : opP F n (stp p (hdI b l j)) = true) : hdJ F n b p l 4 = (hdI b l j : Nat) := by
  have e : hdJ F n b p l (j + 1) = (hdI b l j : Nat) := by
    rw [hdJ, if_pos ⟨by rw [hdJ_no h]; omega, h1⟩]
  rw [hdJ_stay (k := j + 1) (by omega) (by omega), e]
theorem hdJ_some : ∀ {k : Nat}, 0 ≤ hdJ F n b p l k → opP F n (stp p (hdJ F n b p l k).toNat) = true
  | 0, h => by simp [hdJ] at h
  | k + 1, h => by
    rw [hdJ] at h ⊢
    split at h
    · rename_i hc
      rw [if_pos hc]
      exact hc.2
    · rename_i hc
      rw [if_neg hc]
      exact hdJ_some h
end
/-- Where one is after t steps, and where one looks. -/
def hwS (F : Nat → ByteArray) (n : Nat) (b : Bool) (a : Int × Int) : Nat → (Int × Int) × Nat
  | 0 => (a, 0)
  | t + 1 => (stp (hwS F n b a t).1 (hdJ F n b (hwS F n b a t).1 (hwS F n b a t).2 4).toNat, (hdJ F n b (hwS F n b a t).1 (hwS F n b a t).2 4).toNat)
def hwP (F : Nat → ByteArray) (n : Nat) (b : Bool) (a : Int × Int) (t : Nat) : Int × Int := (hwS F n b a t).1
def hwL (F : Nat → ByteArray) (n : Nat) (b : Bool) (a : Int × Int) (t : Nat) : Nat := (hwS F n b a t).2
def hwJ (F : Nat → ByteArray) (n : Nat) (b : Bool) (a : Int × Int) (t : Nat) : Int := hdJ F n b (hwP F n b a t) (hwL F n b a t) 4
def hwCd (F : Nat → ByteArray) (n : Nat) (b : Bool) (a : Int × Int) (t : Nat) : Nat := 4 * ixF F (hwP F n b a t) + (hwJ F n b a t).toNat
/-- The steps that were made before. -/
def hwD (F : Nat → ByteArray) (n : Nat) (b : Bool) (a : Int × Int) : Nat → Nat → Bool
  | 0 => fun _ => false
  | t + 1 => orP (hwD F n b a t) (hwCd F n b a t)
/-- Here the way ends. -/
def hwX (F : Nat → ByteArray) (n : Nat) (b : Bool) (a : Int × Int) (t : Nat) : Bool := decide (hwJ F n b a t < 0) || hwD F n b a t (hwCd F n b a t)
def hwK (F : Nat → ByteArray) (n : Nat) (b : Bool) (a : Int × Int) : Nat := (fstI (hwX F n b a) (4 * (n * (F 0).size) + 1)).toNat
section
variable {F : Nat → ByteArray} {n : Nat} {b : Bool} {a : Int × Int} {t : Nat}
theorem hwP_zero : hwP F n b a 0 = a := rfl
theorem hwL_zero : hwL F n b a 0 = 0 := rfl
theorem hwP_next : hwP F n b a (t + 1) = stp (hwP F n b a t) (hwJ F n b a t).toNat := by simp only [hwP, hwS, hwJ, hwL]
theorem hwL_next : hwL F n b a (t + 1) = (hwJ F n b a t).toNat := by simp only [hwL, hwS, hwJ, hwP]
theorem hwJ_bd (t : Nat) : -1 ≤ hwJ F n b a t ∧ hwJ F n b a t < 4 := hdJ_bd 4
theorem hwL_lt : ∀ t, hwL F n b a t < 4
  | 0 => by rw [hwL_zero]; omega
  | t + 1 => by rw [hwL_next]; have := hwJ_bd (F := F) (n := n) (b := b) (a := a) t; omega
/-- As long as the way goes on it stays on open cells. -/
theorem hwP_open (ha : opP F n a = true) : ∀ {t : Nat}, (∀ s, s < t → hwX F n b a s = false) → opP F n (hwP F n b a t) = true
  | 0, _ => ha
  | t + 1, h => by
    have h1 := h t (by omega)
    simp only [hwX, Bool.or_eq_false_iff, decide_eq_false_iff_not] at h1
    have h2 : 0 ≤ hwJ F n b a t := by have := h1.1; omega
    obtain ⟨J, hJ⟩ : ∃ J, J = hwJ F n b a t := ⟨_, rfl⟩
    have h3 : 0 ≤ J → opP F n (stp (hwP F n b a t) J.toNat) = true := by
      rw [hJ, hwJ]
      exact fun h => hdJ_some h
    rw [← hJ] at h2
    rw [hwP_next, ← hJ]
    exact h3 h2
theorem hwC_lt (hp : opP F n (hwP F n b a t) = true) : hwCd F n b a t < 4 * (n * (F 0).size) := by
  have h1 := ix_lt hp
  have := hwJ_bd (F := F) (n := n) (b := b) (a := a) t
  unfold hwCd
  omega
theorem flt_or_len {p : Nat → Bool} {x n : Nat} (h : p x = false) (hx : x < n) : (flt (orP p x) n).length = (flt p n).length + 1 := by
  rw [flt_or h hx, flt_split p x n (by omega), List.length_append, List.length_append, List.length_cons]
  omega
theorem flt_none (n : Nat) : flt (fun _ => false) n = [] := by
  induction n with
  | zero => rfl
  | succ n ih => rw [flt, ih]; rfl
theorem hwD_len (ha : opP F n a = true) : ∀ {t : Nat}, (∀ s, s < t → hwX F n b a s = false) → (flt (hwD F n b a t) (4 * (n * (F 0).size))).length = t
  | 0, _ => by rw [hwD, flt_none]; rfl
  | t + 1, h => by
    have h1 := h t (by omega)
    simp only [hwX, Bool.or_eq_false_iff] at h1
    rw [hwD, flt_or_len h1.2 (hwC_lt (hwP_open ha fun s hs => h s (by omega))), hwD_len ha fun s hs => h s (by omega)]
/-- There are no more steps than places to look from. -/
theorem hw_le (ha : opP F n a = true) (h : ∀ s, s < t → hwX F n b a s = false) : t ≤ 4 * (n * (F 0).size) := by
  have h1 := hwD_len ha h
  have h2 := flt_len (hwD F n b a t) (4 * (n * (F 0).size))
  omega
theorem hwK_at (ha : opP F n a = true) (h : ∀ s, s < t → hwX F n b a s = false) (hx : hwX F n b a t = true) : hwK F n b a = t := by
  have h1 := hw_le ha h
  rw [hwK, fstI_at (k := t) (by omega) h hx]
  omega
theorem hwK_facts (ha : opP F n a = true) : hwK F n b a ≤ 4 * (n * (F 0).size) ∧ hwX F n b a (hwK F n b a) = true ∧ ∀ s, s < hwK F n b a → hwX F n b a s = false := by
  rcases fstI_cases (hwX F n b a) (4 * (n * (F 0).size) + 1) with ⟨h1, h2⟩ | ⟨k, h1, h2, h3, h4⟩
  · have := hw_le (b := b) ha (t := 4 * (n * (F 0).size) + 1) h2
    omega
  · have e : hwK F n b a = k := by rw [hwK, h2]; omega
    rw [e]
    exact ⟨by omega, h3, h4⟩
end

end Go.Proofs.YtpckhpkbdanjoaaDoor

/-
  Plain words: the open cells on a way or next to it, put into a list of places one after another. No program in sight.-/
namespace Go.Proofs.YtpckhpkbdanjoaaDoor
set_option linter.unusedVariables false
set_option linter.unusedSimpArgs false

/-- One row of the square around a cell: the first b of its three cells. -/
def nrK (F : Nat → ByteArray) (n : Nat) (P : Nat → Bool) (x y : Int) : Nat → Nat → Bool
  | 0 => P
  | b + 1 => if opB F n x (y + ((b : Int) - 1)) = true then orP (nrK F n P x y b) (ixF F (x, y + ((b : Int) - 1))) else nrK F n P x y b
/-- The first a rows of the square. -/
def nrR (F : Nat → ByteArray) (n : Nat) (P : Nat → Bool) (x y : Int) : Nat → Nat → Bool
  | 0 => P
  | a + 1 => nrK F n (nrR F n P x y a) (x + ((a : Int) - 1)) y 3
/-- The first t cells of the way. -/
def nrF (F : Nat → ByteArray) (n : Nat) (p q : Nat → Int) : Nat → Nat → Bool
  | 0 => fun _ => false
  | t + 1 => nrR F n (nrF F n p q t) (p t) (q t) 3
theorem nrK_iff {F : Nat → ByteArray} {n : Nat} {P : Nat → Bool} {x y : Int} {i : Nat} : ∀ {b : Nat}, nrK F n P x y b i = true ↔ P i = true ∨ ∃ k : Nat, k < b ∧ opB F n x (y + ((k : Int) - 1)) = true ∧ i = ixF F (x, y + ((k : Int) - 1))
  | 0 => by simp [nrK]
  | b + 1 => by
    rw [nrK]
    have ih := nrK_iff (F := F) (n := n) (P := P) (x := x) (y := y) (i := i) (b := b)
    split
    · rename_i h
      rw [orP, Bool.or_eq_true, ih, decide_eq_true_eq]
      constructor
      · rintro ((h1 | ⟨k, h1, h2⟩) | h1)
        · exact .inl h1
        · exact .inr ⟨k, by omega, h2⟩
        · exact .inr ⟨b, by omega, h, h1⟩
      · rintro (h1 | ⟨k, h1, h2, h3⟩)
        · exact .inl (.inl h1)
        · by_cases e : k = b
          · subst e; exact .inr h3
          · exact .inl (.inr ⟨k, by omega, h2, h3⟩)
    · rename_i h
      rw [ih]
      constructor
      · rintro (h1 | ⟨k, h1, h2⟩)
        · exact .inl h1
        · exact .inr ⟨k, by omega, h2⟩
      · rintro (h1 | ⟨k, h1, h2, h3⟩)
        · exact .inl h1
        · by_cases e : k = b
          · subst e; exact absurd h2 h
          · exact .inr ⟨k, by omega, h2, h3⟩
theorem nrR_iff {F : Nat → ByteArray} {n : Nat} {P : Nat → Bool} {x y : Int} {i : Nat} : ∀ {a : Nat}, nrR F n P x y a i = true ↔ P i = true ∨ ∃ j : Nat, j < a ∧ ∃ k : Nat, k < 3 ∧ opB F n (x + ((j : Int) - 1)) (y + ((k : Int) - 1)) = true ∧ i = ixF F (x + ((j : Int) - 1), y + ((k : Int) - 1))
  | 0 => by simp [nrR]
  | a + 1 => by
    rw [nrR, nrK_iff, nrR_iff]
    constructor
    · rintro ((h1 | ⟨j, h1, h2⟩) | h1)
      · exact .inl h1
      · exact .inr ⟨j, by omega, h2⟩
      · exact .inr ⟨a, by omega, h1⟩
    · rintro (h1 | ⟨j, h1, h2⟩)
      · exact .inl (.inl h1)
      · by_cases e : j = a
        · subst e; exact .inr h2
        · exact .inl (.inr ⟨j, by omega, h2⟩)
theorem nrF_iff {F : Nat → ByteArray} {n : Nat} {p q : Nat → Int} {i : Nat} : ∀ {t : Nat}, nrF F n p q t i = true ↔ ∃ s, s < t ∧ ∃ j : Nat, j < 3 ∧ ∃ k : Nat, k < 3 ∧ opB F n (p s + ((j : Int) - 1)) (q s + ((k : Int) - 1)) = true ∧ i = ixF F (p s + ((j : Int) - 1), q s + ((k : Int) - 1))
  | 0 => by simp [nrF]
  | t + 1 => by
    rw [nrF, nrR_iff, nrF_iff]
    constructor
    · rintro (⟨s, h1, h2⟩ | h1)
      · exact ⟨s, by omega, h2⟩
      · exact ⟨t, by omega, h1⟩
    · rintro ⟨s, h1, h2⟩
      by_cases e : s = t
      · subst e; exact .inr h2
      · exact .inl ⟨s, by omega, h2⟩

end Go.Proofs.YtpckhpkbdanjoaaDoor
