/-
  Texts of this proof, one behind the other (part 2).
-/
import Derived.Test.YtpckhpkbdanjoaaDoorQ1
import Derived.Deep.Heap
import Derived.Laws.Concat
import Derived.Laws.BytesArg
import Derived.ArgAppend
import Derived.Deep.DeepAppendRoom
import Derived.Ground.NamesProg
import Derived.Shelf.Lay
import Derived.Shelf.Strings.SlTrimAscii
/-
  Plain laws on cylinders: litres, pressures after use, leading runs. No program in sight.-/
namespace Go.Proofs.YtpckhpkbdanjoaaDoor
set_option linter.unusedVariables false
set_option linter.unusedSimpArgs false

def inB (n a b : Int) : Bool := decide (a ≤ n) && decide (n ≤ b)
theorem inB_iff {n a b : Int} : inB n a b = true ↔ a ≤ n ∧ n ≤ b := by simp [inB]
theorem inB_no {n a b : Int} : inB n a b = false ↔ n < a ∨ b < n := by simp [inB]; omega

def cylB (v b : Int) : Bool := inB v 10 3000 && inB b 0 330
theorem cylB_iff {v b : Int} : cylB v b = true ↔ (10 ≤ v ∧ v ≤ 3000) ∧ 0 ≤ b ∧ b ≤ 330 := by simp [cylB, inB_iff]

/-- The pressure that counts. -/
def eff (b : Int) : Int := if 200 < b then 200 + 9 * (b - 200) / 10 else b
def lit (v b : Int) : Int := v * eff b / 10
theorem eff_mono {a b : Int} (h : a ≤ b) : eff a ≤ eff b := by unfold eff; split <;> split <;> omega
theorem eff_bd {b : Int} (h0 : 0 ≤ b) (h1 : b ≤ 330) : 0 ≤ eff b ∧ eff b ≤ 317 := by unfold eff; split <;> omega
theorem lit_mono {v a b : Int} (hv : 0 ≤ v) (h : a ≤ b) : lit v a ≤ lit v b := by
  unfold lit
  have := Int.mul_le_mul_of_nonneg_left (eff_mono h) hv
  omega
theorem lit_zero (v : Int) : lit v 0 = 0 := by simp [lit, eff]
theorem mul_bd {v e : Int} (hv : 0 ≤ v) (hv' : v ≤ 3000) (he : 0 ≤ e) (he' : e ≤ 317) : 0 ≤ v * e ∧ v * e ≤ 951000 := by
  refine ⟨Int.mul_nonneg hv he, ?_⟩
  have h1 := Int.mul_le_mul_of_nonneg_left he' hv
  have h2 := Int.mul_le_mul_of_nonneg_right hv' (show (0 : Int) ≤ 317 by omega)
  omega
theorem lit_bd {v b : Int} (hv : 0 ≤ v) (hv' : v ≤ 3000) (h0 : 0 ≤ b) (h1 : b ≤ 330) : 0 ≤ lit v b ∧ lit v b ≤ 95100 := by
  have he := eff_bd h0 h1
  have := mul_bd hv hv' he.1 he.2
  unfold lit
  omega

/-- The greatest pressure, at most n, with at most 'left' litres. -/
def down (v left : Int) : Nat → Nat
  | 0 => 0
  | n + 1 => if left < lit v ((n : Int) + 1) then down v left n else n + 1
theorem down_le (v left : Int) (n : Nat) : down v left n ≤ n := by
  induction n with
  | zero => simp [down]
  | succ n ih => unfold down; split <;> omega
theorem down_lit {v left : Int} (h : 0 ≤ left) (n : Nat) : lit v (down v left n : Nat) ≤ left := by
  induction n with
  | zero => simp [down, lit_zero]; exact h
  | succ n ih =>
    unfold down
    split
    · exact ih
    · rename_i hh; push_cast; omega
theorem down_max {v left : Int} : ∀ {n m : Nat}, m ≤ n → lit v (m : Nat) ≤ left → m ≤ down v left n
  | 0, m, hm, _ => by omega
  | n + 1, m, hm, hl => by
    unfold down
    split
    · rename_i hh
      rcases Nat.lt_or_ge m (n + 1) with h | h
      · exact down_max (by omega) hl
      · obtain rfl : m = n + 1 := by omega
        push_cast at hl
        omega
    · exact hm
theorem down_step {v left : Int} {n m : Nat} (hm : m ≤ n) (h : ∀ j : Nat, m < j → j ≤ n → left < lit v (j : Nat)) (hl : m = 0 ∨ lit v (m : Nat) ≤ left) : down v left n = m := by
  induction n with
  | zero => simp [down]; omega
  | succ n ih =>
    unfold down
    rcases Nat.lt_or_ge m (n + 1) with hlt | hge
    · have h1 := h (n + 1) hlt (Nat.le_refl _)
      push_cast at h1
      rw [if_pos h1]
      exact ih (by omega) fun j h2 h3 => h j h2 (by omega)
    · obtain rfl : m = n + 1 := by omega
      rcases hl with hl | hl
      · omega
      · push_cast at hl
        rw [if_neg (by omega)]
theorem down_anti {v l1 l2 : Int} (hl0 : 0 ≤ l2) (h : l2 ≤ l1) (n : Nat) : down v l2 n ≤ down v l1 n :=
  down_max (down_le _ _ _) (by have := down_lit (v := v) hl0 n; omega)
theorem down_self {v : Int} (n : Nat) : down v (lit v (n : Nat)) n = n :=
  down_step (Nat.le_refl _) (fun j h1 h2 => by omega) (.inr (Int.le_refl _))
/-- From above: the least of b and the greatest pressure at all. -/
theorem down_min {v left : Int} (hv : 0 ≤ v) (h0 : 0 ≤ left) {n N : Nat} (hn : n ≤ N) : min n (down v left N) = down v left n := by
  have h1 := down_le v left n
  have h2 : down v left n ≤ down v left N := down_max (by omega) (down_lit h0 n)
  have h3 : min n (down v left N) ≤ down v left n := by
    refine down_max (Nat.min_le_left _ _) ?_
    have h4 := down_lit (v := v) h0 N
    have h5 : lit v ((min n (down v left N) : Nat) : Int) ≤ lit v ((down v left N : Nat) : Int) := lit_mono hv (by omega)
    omega
  omega

/-- What is left after 'used' litres, if there are so many. -/
def aftOk (v b used : Int) : Bool := decide (used ≤ lit v b)
def aftN (v b used : Int) : Int := if used ≤ lit v b then (down v (lit v b - used) b.toNat : Nat) else 0
theorem aftN_bd {v b used : Int} (h0 : 0 ≤ b) : 0 ≤ aftN v b used ∧ aftN v b used ≤ b := by
  unfold aftN
  have := down_le v (lit v b - used) b.toNat
  split <;> omega
theorem aftN_lit {v b used : Int} (h : used ≤ lit v b) : lit v (aftN v b used) ≤ lit v b - used := by
  unfold aftN
  rw [if_pos h]
  exact down_lit (by omega) _
theorem aftN_anti {v b u1 u2 : Int} (h : u1 ≤ u2) (h2 : u2 ≤ lit v b) : aftN v b u2 ≤ aftN v b u1 := by
  unfold aftN
  rw [if_pos h2, if_pos (by omega)]
  have := down_anti (v := v) (l1 := lit v b - u1) (l2 := lit v b - u2) (by omega) (by omega) b.toNat
  omega
theorem aftN_zero {v b : Int} (h0 : 0 ≤ b) (hl : 0 ≤ lit v b) : aftN v b 0 = b := by
  unfold aftN
  rw [if_pos hl]
  have hb : ((b.toNat : Nat) : Int) = b := Int.toNat_of_nonneg h0
  have := down_self (v := v) b.toNat
  rw [hb] at this
  rw [show lit v b - 0 = lit v b by omega, this, hb]

/-- How many of the first N are so, up to the first that is not. -/
def lead (g : Nat → Bool) : Nat → Nat
  | 0 => 0
  | n + 1 => if g 0 then lead (fun k => g (k + 1)) n + 1 else 0
theorem lead_eq {g : Nat → Bool} : ∀ {N k : Nat}, k ≤ N → (∀ j, j < k → g j = true) → (k = N ∨ g k = false) → lead g N = k := by
  intro N
  induction N generalizing g with
  | zero => intro k hk _ _; simp [lead]; omega
  | succ N ih =>
    intro k hk hj he
    unfold lead
    match k with
    | 0 =>
      rcases he with he | he
      · omega
      · simp [he]
    | k + 1 =>
      rw [if_pos (hj 0 (by omega))]
      rw [ih (g := fun k => g (k + 1)) (k := k) (by omega) (fun j h => hj (j + 1) (by omega)) (by
        rcases he with he | he
        · left; omega
        · right; exact he)]
theorem lead_spec (g : Nat → Bool) : ∀ (N : Nat), lead g N ≤ N ∧ (∀ j, j < lead g N → g j = true) ∧ (lead g N = N ∨ g (lead g N) = false) := by
  intro N
  induction N generalizing g with
  | zero => simp [lead]
  | succ N ih =>
    obtain ⟨h1, h2, h3⟩ := ih (fun k => g (k + 1))
    unfold lead
    by_cases hg : g 0 = true
    · rw [if_pos hg]
      refine ⟨by omega, fun j hj => ?_, ?_⟩
      · match j with
        | 0 => exact hg
        | j + 1 => exact h2 j (by omega)
      · rcases h3 with h3 | h3
        · left; omega
        · right; exact h3
    · rw [if_neg hg]
      refine ⟨by omega, fun j hj => by omega, .inr (by simpa using hg)⟩

/-- After n minutes more than 'first' at least 'bar' is left. -/
def okAt (v b rate first bar : Int) (n : Nat) : Bool := aftOk v b (rate * (first + n)) && decide (bar ≤ aftN v b (rate * (first + n)))
theorem okAt_mono {v b rate first bar : Int} (hr : 0 ≤ rate) {m n : Nat} (h : m ≤ n) (hn : okAt v b rate first bar n = true) : okAt v b rate first bar m = true := by
  simp only [okAt, aftOk, Bool.and_eq_true, decide_eq_true_eq] at hn ⊢
  have h1 : rate * (first + m) ≤ rate * (first + n) := Int.mul_le_mul_of_nonneg_left (by omega) hr
  have := aftN_anti h1 hn.1
  omega
/-- The greatest number of minutes, up to 600, or -1. -/
def timeF (v b rate first bar : Int) : Int := (lead (okAt v b rate first bar) 601 : Nat) - 1
theorem timeF_bd (v b rate first bar : Int) : -1 ≤ timeF v b rate first bar ∧ timeF v b rate first bar ≤ 600 := by
  unfold timeF
  have := (lead_spec (okAt v b rate first bar) 601).1
  omega
theorem timeF_of {v b rate first bar : Int} {k : Nat} (hk : k ≤ 601) (h : ∀ j, j < k → okAt v b rate first bar j = true) (he : k = 601 ∨ okAt v b rate first bar k = false) : timeF v b rate first bar = (k : Int) - 1 := by
  unfold timeF
  rw [lead_eq hk h he]

/-- A rate between two checks, rounded up. -/
def upF (a b : Int) : Int := (a + b - 1) / b
theorem upF_bd {a d : Int} (ha : 0 ≤ a) (ha' : a ≤ 95100) (hd : 1 ≤ d) : 0 ≤ upF a d ∧ upF a d ≤ 95100 := by
  unfold upF
  refine ⟨Int.ediv_nonneg (by omega) (by omega), ?_⟩
  have h1 : (a + d - 1) / d < 95101 := by
    rw [Int.ediv_lt_iff_lt_mul (by omega)]
    have h2 : 95101 * 1 ≤ 95101 * d := Int.mul_le_mul_of_nonneg_left hd (by omega)
    have h3 : 95101 * d = 95100 * d + d := by omega
    have h4 : 95100 * 1 ≤ 95100 * d := Int.mul_le_mul_of_nonneg_left hd (by omega)
    omega
  omega

end Go.Proofs.YtpckhpkbdanjoaaDoor

/-
  Plain laws on lists given by an index: the first that is so, how many are so. No program in sight.-/
namespace Go.Proofs.YtpckhpkbdanjoaaDoor
set_option linter.unusedVariables false
set_option linter.unusedSimpArgs false

/-- The first of n that is so, or -1. -/
def fstI (p : Nat → Bool) (n : Nat) : Int := if lead (fun i => !p i) n < n then (lead (fun i => !p i) n : Nat) else -1
theorem fstI_at {p : Nat → Bool} {n k : Nat} (hk : k < n) (hj : ∀ j, j < k → p j = false) (h : p k = true) : fstI p n = k := by
  have := lead_eq (g := fun i => !p i) (N := n) (k := k) (by omega) (fun j hj' => by simp [hj j hj']) (.inr (by simp [h]))
  rw [fstI, this, if_pos hk]
theorem fstI_none {p : Nat → Bool} {n : Nat} (hj : ∀ j, j < n → p j = false) : fstI p n = -1 := by
  have := lead_eq (g := fun i => !p i) (N := n) (k := n) (by omega) (fun j hj' => by simp [hj j hj']) (.inl rfl)
  rw [fstI, this, if_neg (by omega)]
theorem fstI_neg {p : Nat → Bool} {n : Nat} : decide (0 ≤ fstI p n) = !allB (fun i => !p i) n := by
  obtain ⟨h1, h2, h3⟩ := lead_spec (fun i => !p i) n
  unfold fstI
  split
  · rename_i h
    have h4 : (fun i => !p i) (lead (fun i => !p i) n) = false := by
      rcases h3 with h3 | h3
      · omega
      · exact h3
    rw [allB_false h h4]
    simp
  · rename_i h
    rw [allB_iff.2 fun i hi => h2 i (by omega)]
    simp

theorem fstI_bd (p : Nat → Bool) (n : Nat) : -1 ≤ fstI p n ∧ fstI p n < n ∨ n = 0 ∧ fstI p n = -1 := by
  unfold fstI
  split <;> omega
/-- Either none is so, or the first is known. -/
theorem fstI_cases (p : Nat → Bool) (n : Nat) : (fstI p n = -1 ∧ ∀ j, j < n → p j = false) ∨ ∃ k, k < n ∧ fstI p n = k ∧ p k = true ∧ ∀ j, j < k → p j = false := by
  obtain ⟨h1, h2, h3⟩ := lead_spec (fun i => !p i) n
  unfold fstI
  split
  · rename_i h
    right
    refine ⟨_, h, rfl, ?_, fun j hj => by simpa using h2 j hj⟩
    rcases h3 with h3 | h3
    · omega
    · simpa using h3
  · rename_i h
    left
    exact ⟨rfl, fun j hj => by simpa using h2 j (by omega)⟩
def cntF (p : Nat → Bool) : Nat → Nat
  | 0 => 0
  | n + 1 => cntF p n + if p n = true then 1 else 0
theorem cntF_le (p : Nat → Bool) (n : Nat) : cntF p n ≤ n := by
  induction n with
  | zero => simp [cntF]
  | succ n ih => unfold cntF; split <;> omega
theorem cntF_mono (p : Nat → Bool) {m n : Nat} (h : m ≤ n) : cntF p m ≤ cntF p n := by
  induction n with
  | zero => have : m = 0 := by omega
            subst this; exact Nat.le_refl _
  | succ n ih =>
    rcases Nat.lt_or_ge m (n + 1) with h1 | h1
    · have h2 := ih (by omega)
      have h3 : cntF p (n + 1) = cntF p n + if p n = true then 1 else 0 := rfl
      omega
    · have : m = n + 1 := by omega
      subst this; exact Nat.le_refl _

end Go.Proofs.YtpckhpkbdanjoaaDoor

/-
  Walks: the smallest functions: bounds, the lesser, the greater, a quotient rounded up.-/
namespace Go.Proofs.YtpckhpkbdanjoaaDoor
set_option linter.unusedVariables false
set_option linter.unusedSimpArgs false
open Go.RowKit

set_option maxHeartbeats 400000 in
theorem inside_any (n a b : Int) (w : World) :
    Calls Tryd.prog 68 #[.int .i64 n, .int .i64 a, .int .i64 b] w fun e w' => e = .returned (.bool (inB n a b)) ∧ w = w' := by
  go_enter Tryd.func68, Tryd.ntmps68
  go_wp2
  all_goals (go_ret; rename_i h)
  · exact ⟨ret_bool (by simp [inB, h]), rfl⟩
  · exact ⟨ret_bool (by simp [inB]; omega), rfl⟩
set_option maxHeartbeats 400000 in
theorem l1In_any (n a b : Int) (w : World) :
    Calls Tryd.prog 66 #[.int .i64 n, .int .i64 a, .int .i64 b] w fun e w' => e = .returned (.bool (inB n a b)) ∧ w = w' := by
  go_enter Tryd.func66, Tryd.ntmps66
  go_wp2
  all_goals (go_ret; rename_i h)
  · exact ⟨ret_bool (by simp [inB, h]), rfl⟩
  · exact ⟨ret_bool (by simp [inB]; omega), rfl⟩

end Go.Proofs.YtpckhpkbdanjoaaDoor

/-
  Walks: names.-/
namespace Go.Proofs.YtpckhpkbdanjoaaDoor
set_option linter.unusedVariables false
set_option linter.unusedSimpArgs false
open Go.RowKit

def byteAt (s : ByteArray) (i : Nat) : Int := if h : i < s.size then (s[i].toNat : Int) else 0
def lowB (c : Int) : Bool := decide (97 ≤ c) && decide (c ≤ 122)
def digB (c : Int) : Bool := decide (48 ≤ c) && decide (c ≤ 57)
def nm1 (s : ByteArray) (i : Nat) : Bool := lowB (byteAt s i) || (digB (byteAt s i) && !decide (i = 0))
def nameB (s : ByteArray) : Bool := allB (nm1 s) s.size && inB s.size 1 6
theorem byteAt_eq {s : ByteArray} {i : Nat} (h : i < s.size) : (s[i].toNat : Int) = byteAt s i := by simp [byteAt, h]
theorem nameB_no {s : ByteArray} {k : Nat} (hk : k < s.size) (h : nm1 s k = false) : nameB s = false := by rw [nameB, allB_false hk h]; rfl

/-- Where a byte lies among digits and letters. -/
theorem byte_cases (c : Int) : (c < 48) ∨ (48 ≤ c ∧ c ≤ 57) ∨ (57 < c ∧ c < 97) ∨ (97 ≤ c ∧ c ≤ 122) ∨ 122 < c := by omega
theorem nm1_no1 {s : ByteArray} {i : Nat} (h : byteAt s i < 48) : nm1 s i = false := by simp [nm1, lowB, digB]; omega
theorem nm1_no2 {s : ByteArray} {i : Nat} (h : 57 < byteAt s i) (h' : byteAt s i < 97) : nm1 s i = false := by simp [nm1, lowB, digB]; omega
theorem nm1_no3 {s : ByteArray} {i : Nat} (h : 122 < byteAt s i) : nm1 s i = false := by simp [nm1, lowB, digB]; omega
theorem nm1_low {s : ByteArray} {i : Nat} (h : 97 ≤ byteAt s i) (h' : byteAt s i ≤ 122) : nm1 s i = true := by simp [nm1, lowB, digB]; omega
theorem nm1_dig {s : ByteArray} {i : Nat} (h : 48 ≤ byteAt s i) (h' : byteAt s i ≤ 57) (h0 : 0 < i) : nm1 s i = true := by simp [nm1, lowB, digB]; omega
theorem nm1_dig0 {s : ByteArray} {i : Nat} (h : 48 ≤ byteAt s i) (h' : byteAt s i ≤ 57) (h0 : i = 0) : nm1 s i = false := by subst h0; simp [nm1, lowB, digB]; omega


end Go.Proofs.YtpckhpkbdanjoaaDoor

/-
  Plain words for floors: rows of open cells and walls; cells, steps. No program in sight.-/
namespace Go.Proofs.YtpckhpkbdanjoaaDoor
set_option linter.unusedVariables false
set_option linter.unusedSimpArgs false

/-- How great the argument is. -/
def ffits (F : Nat → ByteArray) (n : Nat) : Prop := n ≤ 1048576 ∧ ∀ i, i < n → (F i).size ≤ maxLen
/-- An open cell or a wall. -/
def cel (s : ByteArray) (i : Nat) : Bool := decide (byteAt s i = 46) || decide (byteAt s i = 35)
def rowB (F : Nat → ByteArray) (r : Nat) : Bool := decide ((F r).size = (F 0).size) && allB (cel (F r)) (F r).size
def flB (F : Nat → ByteArray) (n : Nat) : Bool := inB n 1 12 && inB (F 0).size 1 12 && allB (rowB F) n
/-- A cell of the floor that is open. -/
def opB (F : Nat → ByteArray) (n : Nat) (r c : Int) : Bool := inB r 0 ((n : Int) - 1) && inB c 0 (((F 0).size : Int) - 1) && decide (byteAt (F r.toNat) c.toNat = 46)
theorem cel_no {s : ByteArray} {i : Nat} (h : byteAt s i ≠ 46) (h' : byteAt s i ≠ 35) : cel s i = false := by simp [cel, h, h']
theorem cel_iff {s : ByteArray} {i : Nat} : cel s i = true ↔ byteAt s i = 46 ∨ byteAt s i = 35 := by simp [cel]
theorem flB_no {F : Nat → ByteArray} {n k : Nat} (hk : k < n) (h : rowB F k = false) : flB F n = false := by rw [flB, allB_false hk h]; simp
theorem flB_facts {F : Nat → ByteArray} {n : Nat} (h : flB F n = true) : 1 ≤ n ∧ n ≤ 12 ∧ 1 ≤ (F 0).size ∧ (F 0).size ≤ 12 ∧ (∀ i, i < n → (F i).size = (F 0).size) ∧ ∀ i j, i < n → j < (F 0).size → byteAt (F i) j = 46 ∨ byteAt (F i) j = 35 := by
  simp only [flB, Bool.and_eq_true, inB_iff, allB_iff] at h
  obtain ⟨⟨h1, h2⟩, h3⟩ := h
  have h4 : ∀ i, i < n → (F i).size = (F 0).size ∧ ∀ j, j < (F i).size → cel (F i) j = true := fun i hi => by
    have := h3 i hi
    simpa only [rowB, Bool.and_eq_true, decide_eq_true_eq, allB_iff] using this
  exact ⟨by omega, by omega, by omega, by omega, fun i hi => (h4 i hi).1, fun i j hi hj => cel_iff.1 ((h4 i hi).2 j (by rw [(h4 i hi).1]; exact hj))⟩
theorem opB_iff {F : Nat → ByteArray} {n : Nat} {r c : Int} : opB F n r c = true ↔ (0 ≤ r ∧ r < n) ∧ (0 ≤ c ∧ c < (F 0).size) ∧ byteAt (F r.toNat) c.toNat = 46 := by
  simp only [opB, Bool.and_eq_true, inB_iff, decide_eq_true_eq, and_assoc]
  constructor
  · rintro ⟨h1, h2, h3, h4, h5⟩; exact ⟨h1, by omega, h3, by omega, h5⟩
  · rintro ⟨h1, h2, h3, h4, h5⟩; exact ⟨h1, by omega, h3, by omega, h5⟩
theorem opB_nat {F : Nat → ByteArray} {n : Nat} {r c : Int} (h : opB F n r c = true) : ∃ i j : Nat, r = i ∧ c = j ∧ i < n ∧ j < (F 0).size ∧ byteAt (F i) j = 46 := by
  obtain ⟨h1, h2, h3⟩ := opB_iff.1 h
  exact ⟨r.toNat, c.toNat, by omega, by omega, by omega, by omega, h3⟩
/-- A step in a direction: 0 up, 1 right, 2 down, 3 left. -/
def dR (d : Nat) : Int := if d = 0 then -1 else if d = 2 then 1 else 0
def dC (d : Nat) : Int := if d = 1 then 1 else if d = 3 then -1 else 0
def stp (p : Int × Int) (d : Nat) : Int × Int := (p.1 + dR d, p.2 + dC d)
def opP (F : Nat → ByteArray) (n : Nat) (p : Int × Int) : Bool := opB F n p.1 p.2
/-- The number of a cell in order. -/
def ixF (F : Nat → ByteArray) (p : Int × Int) : Nat := (p.1 * ((F 0).size : Int) + p.2).toNat
theorem opP_bd {F : Nat → ByteArray} {n : Nat} {p : Int × Int} (h : opP F n p = true) : 0 ≤ p.1 ∧ p.1 < n ∧ 0 ≤ p.2 ∧ p.2 < (F 0).size := by
  obtain ⟨h1, h2, _⟩ := opB_iff.1 h
  exact ⟨h1.1, h1.2, h2.1, h2.2⟩
theorem dR_bd (d : Nat) : -1 ≤ dR d ∧ dR d ≤ 1 := by unfold dR; split <;> (try split) <;> omega
theorem dC_bd (d : Nat) : -1 ≤ dC d ∧ dC d ≤ 1 := by unfold dC; split <;> (try split) <;> omega
theorem ix_lt' {W n : Nat} {r c : Int} (h1 : 0 ≤ r) (h2 : r < n) (h3 : 0 ≤ c) (h4 : c < W) : 0 ≤ r * W + c ∧ r * W + c < ((n * W : Nat) : Int) := by
  have a1 : 0 ≤ r * (W : Int) := Int.mul_nonneg h1 (by omega)
  have a2 : (r + 1) * (W : Int) ≤ (n : Int) * W := Int.mul_le_mul_of_nonneg_right (by omega) (by omega)
  rw [Int.add_mul, Int.one_mul] at a2
  rw [Int.natCast_mul]
  omega
theorem ix_lt {F : Nat → ByteArray} {n : Nat} {p : Int × Int} (h : opP F n p = true) : ixF F p < n * (F 0).size := by
  obtain ⟨h1, h2, h3, h4⟩ := opP_bd h
  have := ix_lt' h1 h2 h3 h4
  unfold ixF
  omega
theorem ix_cast {F : Nat → ByteArray} {n : Nat} {p : Int × Int} (h : opP F n p = true) : p.1 * ((F 0).size : Int) + p.2 = (ixF F p : Int) := by
  obtain ⟨h1, h2, h3, h4⟩ := opP_bd h
  have := ix_lt' h1 h2 h3 h4
  unfold ixF
  omega
/-- Numbers tell cells. -/
theorem ix_inj' {W : Int} {r c r' c' : Int} (h3 : 0 ≤ c) (h4 : c < W) (h3' : 0 ≤ c') (h4' : c' < W) (e : r * W + c = r' * W + c') : r = r' ∧ c = c' := by
  have hr : r = r' := by
    rcases Int.lt_trichotomy r r' with h | h | h
    · have := Int.mul_le_mul_of_nonneg_right (show r + 1 ≤ r' by omega) (show 0 ≤ W by omega)
      rw [Int.add_mul, Int.one_mul] at this
      omega
    · exact h
    · have := Int.mul_le_mul_of_nonneg_right (show r' + 1 ≤ r by omega) (show 0 ≤ W by omega)
      rw [Int.add_mul, Int.one_mul] at this
      omega
  subst hr
  exact ⟨rfl, by omega⟩
theorem ix_inj {F : Nat → ByteArray} {n : Nat} {p p' : Int × Int} (h : opP F n p = true) (h' : opP F n p' = true) (e : ixF F p = ixF F p') : p = p' := by
  have e1 := ix_cast h
  have e2 := ix_cast h'
  obtain ⟨a1, a2, a3, a4⟩ := opP_bd h
  obtain ⟨b1, b2, b3, b4⟩ := opP_bd h'
  have := ix_inj' (W := (F 0).size) a3 a4 b3 b4 (by rw [e1, e2, e])
  exact Prod.ext this.1 this.2

end Go.Proofs.YtpckhpkbdanjoaaDoor

/-
  Plain words: the open cells on a way or next to it, put into a list of places one after another. No program in sight.-/
namespace Go.Proofs.YtpckhpkbdanjoaaDoor
set_option linter.unusedVariables false
set_option linter.unusedSimpArgs false

/-- One row of the square around a cell: the first b of its three cells. -/
def nrK (F : Nat → ByteArray) (n : Nat) (P : Nat → Bool) (x y : Int) : Nat → Nat → Bool
  | 0 => P
  | b + 1 => if opB F n x (y + ((b : Int) - 1)) = true then orP (nrK F n P x y b) (ixF F (x, y + ((b : Int) - 1))) else nrK F n P x y b
/-- The first a rows of the square. -/
def nrR (F : Nat → ByteArray) (n : Nat) (P : Nat → Bool) (x y : Int) : Nat → Nat → Bool
  | 0 => P
  | a + 1 => nrK F n (nrR F n P x y a) (x + ((a : Int) - 1)) y 3
/-- The first t cells of the way. -/
def nrF (F : Nat → ByteArray) (n : Nat) (p q : Nat → Int) : Nat → Nat → Bool
  | 0 => fun _ => false
  | t + 1 => nrR F n (nrF F n p q t) (p t) (q t) 3
theorem nrK_iff {F : Nat → ByteArray} {n : Nat} {P : Nat → Bool} {x y : Int} {i : Nat} : ∀ {b : Nat}, nrK F n P x y b i = true ↔ P i = true ∨ ∃ k : Nat, k < b ∧ opB F n x (y + ((k : Int) - 1)) = true ∧ i = ixF F (x, y + ((k : Int) - 1))
  | 0 => by simp [nrK]
  | b + 1 => by
    rw [nrK]
    have ih := nrK_iff (F := F) (n := n) (P := P) (x := x) (y := y) (i := i) (b := b)
    split
    · rename_i h
      rw [orP, Bool.or_eq_true, ih, decide_eq_true_eq]
      constructor
      · rintro ((h1 | ⟨k, h1, h2⟩) | h1)
        · exact .inl h1
        · exact .inr ⟨k, by omega, h2⟩
        · exact .inr ⟨b, by omega, h, h1⟩
      · rintro (h1 | ⟨k, h1, h2, h3⟩)
        · exact .inl (.inl h1)
        · by_cases e : k = b
          · subst e; exact .inr h3
          · exact .inl (.inr ⟨k, by omega, h2, h3⟩)
    · rename_i h
      rw [ih]
      constructor
      · rintro (h1 | ⟨k, h1, h2⟩)
        · exact .inl h1
        · exact .inr ⟨k, by omega, h2⟩
      · rintro (h1 | ⟨k, h1, h2, h3⟩)
        · exact .inl h1
        · by_cases e : k = b
          · subst e; exact absurd h2 h
          · exact .inr ⟨k, by omega, h2, h3⟩
theorem nrR_iff {F : Nat → ByteArray} {n : Nat} {P : Nat → Bool} {x y : Int} {i : Nat} : ∀ {a : Nat}, nrR F n P x y a i = true ↔ P i = true ∨ ∃ j : Nat, j < a ∧ ∃ k : Nat, k < 3 ∧ opB F n (x + ((j : Int) - 1)) (y + ((k : Int) - 1)) = true ∧ i = ixF F (x + ((j : Int) - 1), y + ((k : Int) - 1))
  | 0 => by simp [nrR]
  | a + 1 => by
    rw [nrR, nrK_iff, nrR_iff]
    constructor
    · rintro ((h1 | ⟨j, h1, h2⟩) | h1)
      · exact .inl h1
      · exact .inr ⟨j, by omega, h2⟩
      · exact .inr ⟨a, by omega, h1⟩
    · rintro (h1 | ⟨j, h1, h2⟩)
      · exact .inl (.inl h1)
      · by_cases e : j = a
        · subst e; exact .inr h2
        · exact .inl (.inr ⟨j, by omega, h2⟩)
theorem nrF_iff {F : Nat → ByteArray} {n : Nat} {p q : Nat → Int} {i : Nat} : ∀ {t : Nat}, nrF F n p q t i = true ↔ ∃ s, s < t ∧ ∃ j : Nat, j < 3 ∧ ∃ k : Nat, k < 3 ∧ opB F n (p s + ((j : Int) - 1)) (q s + ((k : Int) - 1)) = true ∧ i = ixF F (p s + ((j : Int) - 1), q s + ((k : Int) - 1))
  | 0 => by simp [nrF]
  | t + 1 => by
    rw [nrF, nrR_iff, nrF_iff]
    constructor
    · rintro (⟨s, h1, h2⟩ | h1)
      · exact ⟨s, by omega, h2⟩
      · exact ⟨t, by omega, h1⟩
    · rintro ⟨s, h1, h2⟩
      by_cases e : s = t
      · subst e; exact .inr h2
      · exact .inl ⟨s, by omega, h2⟩

end Go.Proofs.YtpckhpkbdanjoaaDoor

/-
  Words for the laws' marks: a slice of the call's own, cell by cell; what writes to a range of blocks alone; the text of a mark.-/
namespace Go.Proofs.YtpckhpkbdanjoaaDoor
set_option linter.unusedVariables false
set_option linter.unusedSimpArgs false
open Go.RowKit

/-- A slice of the call's own whose first K cells are known (of no element: whatever it points to). -/
def OwnL (w : World) (lo hi E sz : Nat) (v : Value) (n K : Nat) (cc : Nat → Value) : Prop :=
  (n = 0 ∧ ∃ A cap, v = .slice A 0 cap) ∨ ∃ g cap xs, v = .slice (some ⟨g, 0, none⟩) n cap ∧ lo ≤ g ∧ g < hi ∧ n ≤ cap ∧ w.ownsRow lo E sz v n xs ∧ ∀ o, o < K → o < n * sz → xs[o]? = some (cc o)
/-- Nothing below has turned but in the blocks from lo on and below hi. -/
structure Only (lo hi : Nat) (w w' : World) : Prop where
  os : w'.os = w.os
  tape : w'.tape = w.tape
  output : w'.output = w.output
  size : w.heap.size ≤ w'.heap.size
  block : ∀ k, k < w.heap.size → (k < lo ∨ hi ≤ k) → w'.heap[k]? = w.heap[k]?
theorem Only.refl (lo hi : Nat) (w : World) : Only lo hi w w := ⟨rfl, rfl, rfl, Nat.le_refl _, fun _ _ _ => rfl⟩
section
variable {w w' w'' : World} {lo hi E sz n K cap g : Nat} {v u : Value} {cc cc' : Nat → Value}
theorem Only.trans (h : Only lo hi w w') (h' : Only lo hi w' w'') : Only lo hi w w'' :=
  ⟨h'.os.trans h.os, h'.tape.trans h.tape, h'.output.trans h.output, Nat.le_trans h.size h'.size, fun k h1 h2 => (h'.block k (Nat.lt_of_lt_of_le h1 h.size) h2).trans (h.block k h1 h2)⟩
theorem Only.of_below (h : Below w.heap.size w w') : Only lo hi w w' := ⟨h.os, h.tape, h.output, h.size, fun k h1 _ => h.block k h1⟩
theorem Only.then_below (h : Only lo hi w w') (hb : Below w'.heap.size w' w'') : Only lo hi w w'' := h.trans (Only.of_below hb)
theorem Only.below {B : Nat} (h : Only lo hi w w') (h1 : B ≤ lo) (h2 : B ≤ w.heap.size) : Below B w w' := ⟨h.os, h.tape, h.output, h.size, fun k hk => h.block k (by omega) (.inl (by omega))⟩
theorem Only.setCell (h : Only lo hi w w') {a : Addr} (h1 : lo ≤ a.block) (h2 : a.block < hi) (u : Value) : Only lo hi w (w'.setCell a u) := by
  refine ⟨?_, ?_, ?_, ?_, fun k hk hk' => ?_⟩
  · exact (by simp [World.setCell]; exact h.os)
  · exact (by simp [World.setCell]; exact h.tape)
  · exact (by simp [World.setCell]; exact h.output)
  · have := h.size
    simp [World.setCell]; exact this
  · rw [Deep.blk_setCell_other _ _ _ _ (by omega)]
    exact h.block k hk hk'
theorem OwnL.open_ (h : OwnL w lo hi E sz v n K cc) : ∃ A cap, v = .slice A n cap ∧ n ≤ cap ∧ (0 < n → ∃ g, A = some ⟨g, 0, none⟩ ∧ lo ≤ g ∧ g < hi) := by
  rcases h with ⟨rfl, A, cap, rfl⟩ | ⟨g, cap, xs, rfl, h1, h2, h3, h4, h5⟩
  · exact ⟨A, cap, rfl, Nat.zero_le _, fun h => absurd h (Nat.lt_irrefl _)⟩
  · exact ⟨_, cap, rfl, h3, fun _ => ⟨g, rfl, h1, h2⟩⟩
theorem OwnL.less (h : OwnL w lo hi E sz v n K cc) {K' : Nat} (hk : K' ≤ K) : OwnL w lo hi E sz v n K' cc := by
  rcases h with h | ⟨g, cap, xs, h0, h1, h2, h3, h4, h5⟩
  · exact .inl h
  · exact .inr ⟨g, cap, xs, h0, h1, h2, h3, h4, fun o ho ho' => h5 o (by omega) ho'⟩
theorem OwnL.congr (h : OwnL w lo hi E sz v n K cc) (hc : ∀ o, o < K → cc o = cc' o) : OwnL w lo hi E sz v n K cc' := by
  rcases h with h | ⟨g, cap, xs, h0, h1, h2, h3, h4, h5⟩
  · exact .inl h
  · exact .inr ⟨g, cap, xs, h0, h1, h2, h3, h4, fun o ho ho' => (h5 o ho ho').trans (by rw [hc o ho])⟩
theorem OwnL.keep (h : OwnL w lo hi E sz v n K cc) (hk : ∀ b, lo ≤ b → b < hi → w'.heap[b]? = w.heap[b]?) : OwnL w' lo hi E sz v n K cc := by
  rcases h with h | ⟨g, cap, xs, rfl, h1, h2, h3, ⟨hl, h4⟩, h5⟩
  · exact .inl h
  · refine .inr ⟨g, cap, xs, rfl, h1, h2, h3, ⟨hl, ?_⟩, h5⟩
    rcases h4 with ⟨h4, h6⟩ | ⟨g', cap', cur, he, hg, hh, r⟩
    · cases h4
    · injection he with e1 e2 e3
      injection e1 with e1
      injection e1 with e1
      subst e1 e3
      exact .inr ⟨g, cap, cur, rfl, hg, by rw [hk g hg h2]; exact hh, r⟩
theorem OwnL.below {B : Nat} (h : OwnL w lo hi E sz v n K cc) (hb : Below B w w') (hB : hi ≤ B) : OwnL w' lo hi E sz v n K cc := h.keep fun b _ h2 => hb.block b (by omega)
theorem OwnL.mono {lo' hi' : Nat} (h : OwnL w lo hi E sz v n K cc) (h1 : lo' ≤ lo) (h2 : hi ≤ hi') : OwnL w lo' hi' E sz v n K cc := by
  rcases h with h | ⟨g, cap, xs, h0, a1, a2, a3, a4, a5⟩
  · exact .inl h
  · exact .inr ⟨g, cap, xs, h0, by omega, by omega, a3, a4.mono h1, a5⟩
theorem OwnL.cell (h : OwnL w lo hi E sz (.slice (some ⟨g, 0, none⟩) n cap) n K cc) (hn : 0 < n) {o : Nat} (ho : o < n * sz) : (∃ u, w.cell? ⟨g, o, none⟩ = some u) ∧ w.frozen? ⟨g, o, none⟩ = false ∧ (o < K → w.cell? ⟨g, o, none⟩ = some (cc o)) := by
  rcases h with ⟨rfl, _⟩ | ⟨g', cap', xs, h0, a1, a2, a3, a4, a5⟩
  · omega
  · injection h0 with e1 e2 e3
    injection e1 with e1
    injection e1 with e1
    subst e1 e3
    have h1 := a4.cellAt o ho
    have h2 : o < xs.length := by rw [a4.1]; exact ho
    exact ⟨⟨xs[o], by rw [h1]; exact List.getElem?_eq_getElem h2⟩, a4.frozenAt o, fun hk => h1.trans (a5 o hk ho)⟩
theorem OwnL.store (h : OwnL w lo hi E sz (.slice (some ⟨g, 0, none⟩) n cap) n K cc) (hK : K < n * sz) : OwnL (w.setCell ⟨g, K, none⟩ (cc K)) lo hi E sz (.slice (some ⟨g, 0, none⟩) n cap) n (K + 1) cc := by
  rcases h with ⟨rfl, _⟩ | ⟨g', cap', xs, h0, a1, a2, a3, a4, a5⟩
  · omega
  · injection h0 with e1 e2 e3
    injection e1 with e1
    injection e1 with e1
    subst e1 e3
    refine .inr ⟨g, cap, _, rfl, a1, a2, a3, (a4.stored K (cc K)).1, fun o ho ho' => ?_⟩
    have hl := a4.1
    rcases Nat.lt_or_ge o K with h1 | h1
    · rw [List.getElem?_set_ne (by omega)]
      exact a5 o h1 ho'
    · obtain rfl : o = K := by omega
      exact List.getElem?_set_self (by omega)
theorem OwnL.sl (h : OwnL w lo hi E sz v n (n * sz) cc) {c : Nat → Nat → Value} (hc : ∀ i j, i < n → j < sz → cc (i * sz + j) = c i j) : Sl w lo hi sz v n c := by
  rcases h with ⟨rfl, A, cap, rfl⟩ | ⟨g, cap, xs, rfl, a1, a2, a3, a4, a5⟩
  · exact ⟨A, cap, rfl, Nat.zero_le _, fun h => absurd h (Nat.lt_irrefl _)⟩
  · refine ⟨_, _, rfl, a3, fun hn => ⟨g, 0, rfl, a1, a2, fun i j hi hj => ?_⟩⟩
    have hlt := lin_lt hi hj
    rw [Nat.zero_add, a4.cellAt _ hlt, a5 _ hlt hlt, hc i j hi hj]
theorem Own.l {k : Nat} {c : Nat → Nat → Value} (h : Own w lo hi E sz v n k c) (cc : Nat → Value) : OwnL w lo hi E sz v n 0 cc := by
  obtain ⟨xs, ⟨hl, h1⟩, h2, h3⟩ := h
  rcases h1 with ⟨rfl, rfl⟩ | ⟨g, cap, cur, rfl, hg, hh, hnc, r⟩
  · exact .inl ⟨rfl, none, 0, rfl⟩
  · exact .inr ⟨g, cap, xs, rfl, hg, h2 g rfl, hnc, ⟨hl, .inr ⟨g, cap, cur, rfl, hg, hh, hnc, r⟩⟩, fun o h => absurd h (Nat.not_lt_zero _)⟩
end

/-- The digits of a number, put ahead of a text. -/
def mtGo (k : Nat) (out : ByteArray) : ByteArray := if k = 0 then out else mtGo (k / 10) (strOfNums [48 + (k : Int) % 10] ++ out)
termination_by k
decreasing_by omega
/-- The text of a mark. -/
def mT (k : Int) : ByteArray := if k ≤ 0 then ⟨#[109, 48]⟩ else ⟨#[109]⟩ ++ mtGo k.toNat ⟨#[]⟩
set_option maxRecDepth 100000 in
set_option maxHeartbeats 1600000 in
theorem markText_any (k : Int) (w : World) (hk : k ≤ 4611686018427387904) :
    Calls Tryd.prog 62 #[.int .i64 k] w fun e w' => e = .returned (.string (mT k)) ∧ Below w.heap.size w w' := by
  by_cases h : k ≤ 0
  · go_enter Tryd.func62, Tryd.ntmps62
    go_wp2_with fail
    go_ret
    exact ⟨by rw [mT, if_pos h]; rfl, (by repeat (first | (with_reducible exact Below.refl _ _) | (with_reducible refine below_ov ?_ ?_) | (with_reducible refine Below.setCell ?_ ?_ _) | (with_reducible refine Below.alloc ?_ ?_ _) | (with_reducible refine Below.drew ?_) | (with_reducible refine below_drewN ?_ _) | (refine Below.trans ?_ (Below.mono ‹Below _ _ _› (by first | omega | (simp; done) | (simp; omega)))) | exact Below.refl _ _ | omega | (focus (simp; done)) | (focus (simp; omega))))⟩
  · go_enter Tryd.func62, Tryd.ntmps62
    obtain ⟨K, rfl⟩ : ∃ K : Nat, k = K := ⟨k.toNat, by omega⟩
    have HE : Hid (mT (K : Int) = ⟨#[109]⟩ ++ mtGo K ⟨#[]⟩) := by show _ = _; rw [mT, if_neg h]; rfl
    have hcv : ∀ (W : World) (n : Int), (convert 43 9 (.slice (some ⟨W.heap.size, 0, none⟩) 1 1)).run Tryd.prog (W.alloc (.cells #[.int .u8 n] 5)) = .ok (.string (strOfNums [n])) (W.alloc (.cells #[.int .u8 n] 5)) := fun W n =>
      run_convert_bytes_arg _ 43 5 Tryd.underlying43 Tryd.underlying5 W.heap.size 0 1 1 [n] rfl (fun i hi => by
        obtain rfl : i = 0 := by omega
        exact World.cell?_alloc_new _ _ _ _) 9 Tryd.underlying9
    go_wp2_with fail
    go_loopw [0, 3] (fun n o wr => ∃ (j : Nat) (out : ByteArray), n = .int .i64 j ∧ o = .string out ∧ Hid (mtGo j out = mtGo K ⟨#[]⟩) ∧ j + out.size ≤ K ∧ Below w.heap.size w wr) (fun n _ _ => (intOf n).toNat)
    case atStart => exact ⟨K, ⟨#[]⟩, rfl, rfl, rfl, Nat.le_refl _, Below.refl _ _⟩
    case round =>
      obtain ⟨j, out, rfl, rfl, hj, hs, hb⟩ := hrel
      have hzr := hb.size
      by_cases h0 : 0 < j
      · have hq : ¬ (9223372036854775807 < (strOfNums [48 + (j : Int) % 10]).size + out.size) := by rw [strOfNums_size]; simp; omega
        have hq' : (strOfNums [48 + (j : Int) % 10] ++ out).size = out.size + 1 := by simp [ByteArray.size_append, strOfNums_size]; omega
        have HQ := hide hq'
        have HS : Hid (mtGo (j / 10) (strOfNums [48 + (j : Int) % 10] ++ out) = mtGo K ⟨#[]⟩) := by
          show _ = _
          rw [← hj.out, mtGo.eq_1 j, if_neg (by omega)]
        clear hq'
        go_wp2_with fail
        go_roundw
        case rel => exact ⟨j / 10, _, by go_num, rfl, HS, by rw [HQ.out]; omega, (by repeat (first | (with_reducible exact Below.refl _ _) | (with_reducible refine below_ov ?_ ?_) | (with_reducible refine Below.setCell ?_ ?_ _) | (with_reducible refine Below.alloc ?_ ?_ _) | (with_reducible refine Below.drew ?_) | (with_reducible refine below_drewN ?_ _) | (refine Below.trans ?_ (Below.mono ‹Below _ _ _› (by first | omega | (simp; done) | (simp; omega)))) | exact Below.refl _ _ | omega | (focus (simp; done)) | (focus (simp; omega))))⟩
        case measure => simp [intOf]; omega
      · obtain rfl : j = 0 := by omega
        have HO : Hid (out = mtGo K ⟨#[]⟩) := by
          have := hj.out
          rw [mtGo.eq_1, if_pos rfl] at this
          exact this
        go_wp2_with fail
        go_ret
        exact ⟨by rw [HE.out, ← HO.out]; rfl, hb⟩

end Go.Proofs.YtpckhpkbdanjoaaDoor

/-
  Rows of the call's own, element by element; an append that tells where the row lies behind it.-/
namespace Go.Proofs.YtpckhpkbdanjoaaDoor
set_option linter.unusedVariables false
set_option linter.unusedSimpArgs false
open Go.RowKit

/-- The cells of the first k elements, in a row. -/
def rowL (c : Nat → Nat → Value) (sz : Nat) : Nat → List Value
  | 0 => []
  | k + 1 => rowL c sz k ++ (List.range sz).map (c k)
theorem rowL_len (c : Nat → Nat → Value) (sz : Nat) : ∀ k, (rowL c sz k).length = k * sz
  | 0 => by simp [rowL]
  | k + 1 => by simp [rowL, rowL_len c sz k, Nat.succ_mul]
theorem rowL_get (c : Nat → Nat → Value) (sz : Nat) : ∀ {k i j : Nat}, i < k → j < sz → (rowL c sz k)[i * sz + j]? = some (c i j)
  | k + 1, i, j, hi, hj => by
    have hl := rowL_len c sz k
    rcases Nat.lt_or_ge i k with h | h
    · have := lin_lt h hj
      rw [rowL, List.getElem?_append_left (by omega)]
      exact rowL_get c sz h hj
    · obtain rfl : i = k := by omega
      rw [rowL, List.getElem?_append_right (by omega), hl, Nat.add_sub_cancel_left, List.getElem?_map, List.getElem?_range hj]
      rfl
theorem rowL_congr {c c' : Nat → Nat → Value} {sz : Nat} : ∀ {k : Nat}, (∀ i j, i < k → j < sz → c i j = c' i j) → rowL c sz k = rowL c' sz k
  | 0, _ => rfl
  | k + 1, h => by
    rw [rowL, rowL, rowL_congr (fun i j hi hj => h i j (by omega) hj)]
    congr 1
    apply List.map_congr_left
    intro j hj
    exact h k j (by omega) (List.mem_range.1 hj)
theorem rowL_mem {c : Nat → Nat → Value} {sz k : Nat} {u : Value} (h : u ∈ rowL c sz k) : ∃ i j, i < k ∧ j < sz ∧ u = c i j := by
  induction k with
  | zero => simp [rowL] at h
  | succ k ih =>
    rw [rowL, List.mem_append] at h
    rcases h with h | h
    · obtain ⟨i, j, h1, h2, h3⟩ := ih h
      exact ⟨i, j, by omega, h2, h3⟩
    · obtain ⟨j, hj, rfl⟩ := List.mem_map.1 h
      exact ⟨k, j, by omega, List.mem_range.1 hj, rfl⟩
/-- Two rows behind each other. -/
theorem rowL_app (c d : Nat → Nat → Value) (sz n : Nat) : ∀ m, rowL c sz n ++ rowL d sz m = rowL (fun i j => if i < n then c i j else d (i - n) j) sz (n + m)
  | 0 => by
    rw [rowL, List.append_nil, Nat.add_zero]
    exact rowL_congr fun i j hi _ => by simp [hi]
  | m + 1 => by
    rw [rowL, ← List.append_assoc, rowL_app c d sz n m, show n + (m + 1) = n + m + 1 by omega, rowL]
    congr 1
    apply List.map_congr_left
    intro j _
    have : ¬ n + m < n := by omega
    simp [this]
section
variable {w w' : World} {lo hi E sz n k : Nat} {v : Value} {c : Nat → Nat → Value}
theorem own_row (h : w.ownsRow lo E sz v n (rowL c sz n)) : Own w lo w.heap.size E sz v n n c := ⟨_, h, fun g hg => (h.lt g hg).2, fun i j hi hj => rowL_get c sz hi hj⟩
theorem Own.row (h : Own w lo hi E sz v n n c) : w.ownsRow lo E sz v n (rowL c sz n) := by
  obtain ⟨xs, h1, h2, h3⟩ := h
  have : xs = rowL c sz n := by
    apply List.ext_getElem?
    intro o
    rcases Nat.lt_or_ge o (n * sz) with ho | ho
    · have hsz : 0 < sz := by
        rcases Nat.eq_zero_or_pos sz with h0 | h0
        · subst h0; omega
        · exact h0
      have a1 : o / sz < n := (Nat.div_lt_iff_lt_mul hsz).2 ho
      have a2 := Nat.mod_lt o hsz
      have e1 := h3 _ _ a1 a2
      have e2 := rowL_get c sz a1 a2
      rw [Nat.div_add_mod'] at e1 e2
      rw [e1, e2]
    · rw [List.getElem?_eq_none (by rw [h1.1]; omega), List.getElem?_eq_none (by rw [rowL_len]; omega)]
  rw [← this]
  exact h1
theorem Sl.news {blk off cap : Nat} (h : Sl w lo hi sz (.slice (some ⟨blk, off, none⟩) n cap) n c) : ∀ j u, (rowL c sz n)[j]? = some u → w.cell? ((⟨blk, off, none⟩ : Addr).add j) = some u := by
  intro o u hu
  obtain ⟨A, cap', he, _, hA⟩ := h
  injection he with e1 _ _
  subst e1
  have ho : o < n * sz := by
    have := (List.getElem?_eq_some_iff.1 hu).1
    rwa [rowL_len] at this
  have hsz : 0 < sz := by
    rcases Nat.eq_zero_or_pos sz with h0 | h0
    · subst h0; omega
    · exact h0
  have a1 : o / sz < n := (Nat.div_lt_iff_lt_mul hsz).2 ho
  have a2 := Nat.mod_lt o hsz
  obtain ⟨b, f, e, _, _, hc⟩ := hA (Nat.lt_of_le_of_lt (Nat.zero_le _) a1)
  injection e with e
  injection e with e1 e2
  subst e1 e2
  have e3 := rowL_get c sz a1 a2
  rw [Nat.div_add_mod'] at e3
  rw [hu] at e3
  have e4 := hc _ _ a1 a2
  rw [Nat.add_assoc, Nat.div_add_mod'] at e4
  rw [Addr.add_lit, e4, e3]
/-- Rows whose elements are of two types lie in two blocks. -/
theorem OwnL.apart {a b E' sz' n' K K' : Nat} {u : Value} {cc cc' : Nat → Value} (h : OwnL w a (a + 1) E sz v n K cc) (h' : OwnL w b (b + 1) E' sz' u n' K' cc') (hn : 0 < n) (hn' : 0 < n') (hE : E ≠ E') : a ≠ b := by
  rcases h with ⟨h0, _⟩ | ⟨g, cap, xs, rfl, h1, h2, h3, ⟨_, h4⟩, _⟩
  · omega
  rcases h' with ⟨h0, _⟩ | ⟨g', cap', xs', rfl, h1', h2', h3', ⟨_, h4'⟩, _⟩
  · omega
  obtain rfl : g = a := by omega
  obtain rfl : g' = b := by omega
  rcases h4 with ⟨h4, _⟩ | ⟨x, _, cur, he, _, hh, _⟩
  · cases h4
  rcases h4' with ⟨h4', _⟩ | ⟨x', _, cur', he', _, hh', _⟩
  · cases h4'
  injection he with e1 _ _
  injection e1 with e1
  injection e1 with e1
  injection he' with e2 _ _
  injection e2 with e2
  injection e2 with e2
  subst e1 e2
  intro e
  subst e
  rw [hh] at hh'
  injection hh' with hh'
  injection hh' with _ e3 _
  exact hE e3
end
/-- An append onto a row of the call's own: in its own block, or in a new one. -/
theorem wpList_append_two {P : Program} (w : World) {ops : Array Oper} {rest : List Oper} {o : Oper} {a : Act} {Q : Exit → Act → World → Prop} (hgd : o.guard = none) (s x : Operand) (t : TypeId)
    (ho : o.op = .call { callee := .builtin .append, args := #[s, x], argTypes := #[t, t] })
    (base : Nat) (e : TypeId) (i : TypeInfo) (z : Value) (size bytes : Nat) (ht : P.underlying t = some (.slice e)) (hi : P.info? e = some i) (hz : i.zero = some z)
    (hsize : i.size = size) (hby : i.bytes = bytes) (hzs : z.cells.size = size) (hsz : 0 < size)
    (v : Value) (n : Nat) (xs : List Value) (hs : a.eval s = v) (hown : w.ownsRow base e size v n xs)
    (ad : Addr) (m c : Nat) (news : List Value) (hx : a.eval x = .slice (some ad) m c) (hl : news.length = m * size) (hnews : ∀ j u, news[j]? = some u → w.cell? (ad.add j) = some u) (h1 : ∀ u ∈ news, u.oneCell' = true) (hm : 0 < m)
    (h63 : n + m ≤ maxLen) (hbytes : (n + m) * bytes ≤ 140737488355328)
    (h : ∀ v' w', ((v'.ownBlock = v.ownBlock ∧ w'.ownsRow base e size v' (n + m) (xs ++ news) ∧ w.grownBy w' v.ownBlock) ∨ (w'.ownsRow w.heap.size e size v' (n + m) (xs ++ news) ∧ w.grownBy w' none)) → wpList P ops Q rest (a.put o.dst v') w') : wpList P ops Q (o :: rest) a w := by
  rcases hown.2 with ⟨rfl, rfl⟩ | ⟨g, cap, cur, rfl, hbg, hg, hnc, hcm, hcs, htake⟩
  · refine wpList_append_grows w hgd s x t ho e i z size bytes ht hi hz hsize hby hzs hsz none 0 0 [] hs (fun _ => ⟨rfl, rfl⟩) (by simp) (fun b hb => by cases hb) ad m c news hx hl hnews h1 (by omega) h63 hbytes ?_
    intro v' w' r1 r2
    have hx0 : xs = [] := List.eq_nil_of_length_eq_zero (by simpa using hown.1)
    subst hx0
    exact h v' w' (.inr ⟨r1, r2⟩)
  · by_cases hroom : n + m ≤ cap
    · refine wpList_append_own_spare w hgd s x t ho base e i size ht hi hsize g n cap xs hs hown ad m c news hx hl hnews h1 hroom ?_
      intro w' r1 r2
      exact h _ w' (.inl ⟨rfl, r1, r2⟩)
    · refine wpList_append_grows w hgd s x t ho e i z size bytes ht hi hz hsize hby hzs hsz (some ⟨g, 0, none⟩) n cap xs hs (fun h => by cases h) hown.1 (fun b hb => by cases hb; exact hown.cells rfl) ad m c news hx hl hnews h1 (by omega) h63 hbytes ?_
      intro v' w' r1 r2
      exact h v' w' (.inr ⟨r1, r2⟩)

end Go.Proofs.YtpckhpkbdanjoaaDoor

/-
  Plain words: the searched cells: what the program asks of a place is what the reference's list holds; lists of cells with numbers. No program in sight.-/
namespace Go.Proofs.YtpckhpkbdanjoaaDoor
set_option linter.unusedVariables false
set_option linter.unusedSimpArgs false
open Go.RowKit

/-- A cell of a way is on a cell or next to it. -/
def nearB (x y p q : Int) : Bool := inB (p - x) (-1) 1 && inB (q - y) (-1) 1
def anyN (x y : Int) (p q : Nat → Int) (m : Nat) : Bool := decide (0 ≤ fstI (fun t => nearB x y (p t) (q t)) m)
theorem anyN_iff {x y : Int} {p q : Nat → Int} {m : Nat} : anyN x y p q m = true ↔ ∃ t, t < m ∧ nearB x y (p t) (q t) = true := by
  rw [anyN, decide_eq_true_eq]
  rcases fstI_cases (fun t => nearB x y (p t) (q t)) m with ⟨h1, h2⟩ | ⟨k, h1, h2, h3, _⟩
  · rw [h1]
    constructor
    · intro h; omega
    · rintro ⟨t, ht, h⟩
      have := h2 t ht
      rw [this] at h
      cases h
  · rw [h2]
    exact ⟨fun _ => ⟨k, h1, h3⟩, fun _ => by omega⟩
/-- What the program asks of the place with row x and column y. -/
def seT (F : Nat → ByteArray) (n : Nat) (p q : Nat → Int) (m x y : Nat) : Bool := opB F n x y && anyN x y p q m
theorem nr_se {F : Nat → ByteArray} {n m x y : Nat} {p q : Nat → Int} (hy : y < (F 0).size) : nrF F n p q m (x * (F 0).size + y) = seT F n p q m x y := by
  rw [Bool.eq_iff_iff, nrF_iff, seT, Bool.and_eq_true, anyN_iff]
  constructor
  · rintro ⟨s, hs, j, hj, k, hk, ho, e⟩
    obtain ⟨h1, h2, h3, h4⟩ := opP_bd (p := (_, _)) ho
    have e1 := ix_cast (p := (_, _)) ho
    rw [← e] at e1
    obtain ⟨e2, e3⟩ := ix_inj' (W := (F 0).size) (r' := (x : Int)) (c' := (y : Int)) h3 h4 (by omega) (by omega) (by rw [e1]; simp)
    refine ⟨by rw [← e2, ← e3]; exact ho, s, hs, ?_⟩
    simp only at e2 e3
    simp only [nearB, Bool.and_eq_true, inB_iff]
    omega
  · rintro ⟨ho, t, ht, hn⟩
    simp only [nearB, Bool.and_eq_true, inB_iff] at hn
    obtain ⟨⟨a1, a2⟩, a3, a4⟩ := hn
    have e1 : p t + (((x - p t + 1).toNat : Int) - 1) = x := by omega
    have e2 : q t + (((y - q t + 1).toNat : Int) - 1) = y := by omega
    refine ⟨t, ht, (x - p t + 1).toNat, by omega, (y - q t + 1).toNat, by omega, by rw [e1, e2]; exact ho, ?_⟩
    rw [e1, e2]
    have hh : (x : Int) * ((F 0).size : Int) + (y : Int) = (ixF F ((x : Int), (y : Int)) : Int) := ix_cast (p := ((x : Int), (y : Int))) ho
    have e3 : ((x * (F 0).size + y : Nat) : Int) = (ixF F ((x : Int), (y : Int)) : Int) := by rw [← hh]; push_cast; rfl
    exact Int.ofNat_inj.1 e3

/-- The cells with the numbers that pass. -/
def fltC (W : Nat) (P : Nat → Bool) : Nat → List Value
  | 0 => []
  | k + 1 => fltC W P k ++ if P k = true then [.int .i64 ((k : Int) / (W : Int)), .int .i64 ((k : Int) % (W : Int))] else []
theorem fltC_yes {W : Nat} {P : Nat → Bool} {k : Nat} (h : P k = true) : fltC W P (k + 1) = fltC W P k ++ [.int .i64 ((k : Int) / (W : Int)), .int .i64 ((k : Int) % (W : Int))] := by rw [fltC, if_pos h]
theorem fltC_no {W : Nat} {P : Nat → Bool} {k : Nat} (h : P k = false) : fltC W P (k + 1) = fltC W P k := by rw [fltC, h]; simp
theorem fltC_at {W : Nat} {P : Nat → Bool} {x y : Nat} (hy : y < W) (h : P (x * W + y) = true) : fltC W P (x * W + y + 1) = fltC W P (x * W + y) ++ [.int .i64 (x : Int), .int .i64 (y : Int)] := by
  rw [fltC_yes h]
  have hW : 0 < W := by omega
  have e1 : (((x * W + y : Nat) : Int) / (W : Int)) = (x : Int) := by
    rw [← Int.natCast_ediv]
    rw [Nat.mul_comm, Nat.mul_add_div hW, Nat.div_eq_of_lt hy]; rfl
  have e2 : (((x * W + y : Nat) : Int) % (W : Int)) = (y : Int) := by
    rw [← Int.natCast_emod, Nat.mul_comm, Nat.mul_add_mod, Nat.mod_eq_of_lt hy]
  rw [e1, e2]
theorem fltC_congr {W : Nat} {P Q : Nat → Bool} : ∀ {k : Nat}, (∀ i, i < k → P i = Q i) → fltC W P k = fltC W Q k
  | 0, _ => rfl
  | k + 1, h => by rw [fltC, fltC, fltC_congr fun i hi => h i (by omega), h k (by omega)]
def rI (W : Nat) (P : Nat → Bool) (N i : Nat) : Int := fltI P N i / (W : Int)
def cI (W : Nat) (P : Nat → Bool) (N i : Nat) : Int := fltI P N i % (W : Int)
theorem fltI_old {P : Nat → Bool} {k i : Nat} (hi : i < (flt P k).length) : fltI P (k + 1) i = fltI P k i := by
  rw [fltI, fltI, flt]
  congr 1
  simp only [List.getD]
  rw [List.getElem?_append_left hi]
theorem fltI_new {P : Nat → Bool} {k : Nat} (h : P k = true) : fltI P (k + 1) (flt P k).length = k := by
  rw [fltI, flt_yes h]
  simp [List.getD]
theorem fltC_row (W : Nat) (P : Nat → Bool) : ∀ n, fltC W P n = rowL (iiC (rI W P n) (cI W P n)) 2 (flt P n).length
  | 0 => rfl
  | k + 1 => by
    have hc : rowL (iiC (rI W P k) (cI W P k)) 2 (flt P k).length = rowL (iiC (rI W P (k + 1)) (cI W P (k + 1))) 2 (flt P k).length := rowL_congr fun i j hi _ => by
      simp only [iiC, rI, cI, fltI_old hi]
    by_cases h : P k = true
    · rw [fltC_yes h, fltC_row W P k, hc, flt_yes h, List.length_append]
      show _ = rowL _ 2 ((flt P k).length + 1)
      rw [rowL]
      congr 1
      have e : (List.range 2).map (iiC (rI W P (k + 1)) (cI W P (k + 1)) (flt P k).length) = [.int .i64 (rI W P (k + 1) (flt P k).length), .int .i64 (cI W P (k + 1) (flt P k).length)] := rfl
      rw [e, rI, cI, fltI_new h]
    · have h' : P k = false := by simpa using h
      rw [fltC_no h', fltC_row W P k, hc, flt_no h']
/-- The cells with the numbers of a list, one more. -/
theorem rowC_snoc (W : Nat) (P : Nat → Bool) (N t : Nat) : rowL (iiC (rI W P N) (cI W P N)) 2 (t + 1) = rowL (iiC (rI W P N) (cI W P N)) 2 t ++ [.int .i64 (fltI P N t / (W : Int)), .int .i64 (fltI P N t % (W : Int))] := by
  rw [rowL]
  congr 1
theorem fltI_lt {P : Nat → Bool} {N i : Nat} (hi : i < (flt P N).length) : 0 ≤ fltI P N i ∧ fltI P N i < N := by
  rw [fltI]
  have hm : (flt P N).getD i 0 ∈ flt P N := by
    simp only [List.getD]
    rw [List.getElem?_eq_getElem hi]
    exact List.getElem_mem hi
  have := (flt_mem hm).1
  omega

end Go.Proofs.YtpckhpkbdanjoaaDoor

/-
  The library's Trim at a cutset of ASCII bytes, by the kit's contract; what is left of a row of open cells and walls.-/
namespace Go.Proofs
open Go.RowKit Go.Shelf
shelf_lay Lays.n160 Nm 160 at Tryd as YtpckhpkbdanjoaaDoor.laysTrim
end Go.Proofs
namespace Go.Proofs.YtpckhpkbdanjoaaDoor
set_option linter.unusedVariables false
set_option linter.unusedSimpArgs false
open Go.RowKit Go.Shelf Go.Lib

theorem dw_nil {α : Type} (p : α → Bool) : ∀ l : List α, l.dropWhile p = [] ↔ ∀ b ∈ l, p b = true
  | [] => by simp
  | a :: l => by
    have ih := dw_nil p l
    rw [List.dropWhile_cons]
    cases h : p a with
    | true => simp only [if_true, ih, List.mem_cons, forall_eq_or_imp, h, true_and]
    | false => simp [h]
theorem dw_head {α : Type} (p : α → Bool) : ∀ (l : List α) {x : α} {r : List α}, l.dropWhile p = x :: r → p x = false
  | [], _, _, h => by simp at h
  | a :: l, x, r, h => by
    rw [List.dropWhile_cons] at h
    cases e : p a with
    | true => rw [e] at h; exact dw_head p l h
    | false =>
      rw [e] at h
      simp at h
      rw [← h.1]
      exact e
theorem trimS_nil (l cs : List UInt8) : (Lib.trimS l cs).isEmpty = l.all (cs.contains ·) := by
  have key : Lib.trimS l cs = [] ↔ ∀ b ∈ l, cs.contains b = true := by
    unfold Lib.trimS Lib.trimLeftS Lib.trimRightS
    constructor
    · intro h
      have h1 : ∀ b ∈ l.reverse.dropWhile (cs.contains ·), cs.contains b = true := fun b hb => by
        have := (dw_nil _ _).1 h b (List.mem_reverse.2 hb)
        exact this
      have h2 : l.reverse.dropWhile (cs.contains ·) = [] := by
        cases e : l.reverse.dropWhile (cs.contains ·) with
        | nil => rfl
        | cons x r =>
          have h3 := h1 x (by rw [e]; exact List.mem_cons_self)
          have h4 := dw_head _ _ e
          rw [h3] at h4
          cases h4
      intro b hb
      exact (dw_nil _ _).1 h2 b (List.mem_reverse.2 hb)
    · intro h
      have h2 : l.reverse.dropWhile (cs.contains ·) = [] := (dw_nil _ _).2 fun b hb => h b (List.mem_reverse.1 hb)
      rw [h2]
      rfl
  rw [Bool.eq_iff_iff, List.isEmpty_iff, key, List.all_eq_true]
theorem cel_all (s : ByteArray) : s.data.toList.all (fun b => [46, 35].contains b) = allB (cel s) s.size := by
  rw [Bool.eq_iff_iff, List.all_eq_true, allB_iff]
  have hg : ∀ i (h : i < s.size), s.data.toList[i]? = some s[i] := fun i h => by
    rw [List.getElem?_eq_getElem (by simpa using h)]; rfl
  have h1 : ∀ b : UInt8, [46, 35].contains b = true ↔ (b.toNat : Int) = 46 ∨ (b.toNat : Int) = 35 := fun b => by
    simp only [List.contains_cons, List.contains_nil, Bool.or_false, Bool.or_eq_true, beq_iff_eq]
    rw [← UInt8.toNat_inj, ← UInt8.toNat_inj]
    show b.toNat = 46 ∨ b.toNat = 35 ↔ _
    omega
  constructor
  · intro h i hi
    have h2 := h _ (List.mem_of_getElem? (hg i hi))
    rw [cel_iff, ← byteAt_eq hi]
    exact (h1 _).1 h2
  · intro h b hb
    obtain ⟨i, hi, rfl⟩ := List.mem_iff_getElem.1 hb
    have hi' : i < s.size := by simpa using hi
    have h2 := h i hi'
    rw [cel_iff, ← byteAt_eq hi'] at h2
    exact (h1 _).2 h2
theorem Trim_any (s : ByteArray) (w : World) (hs : s.size ≤ maxLen) :
    Calls Tryd.prog 92 #[.string s, .string ⟨#[46, 35]⟩] w fun e w' => (∃ t : ByteArray, e = .returned (.string t) ∧ t.toList.isEmpty = allB (cel s) s.size) ∧ Below w.heap.size w w' := by
  have hcon := Any.strings_Trim_laid YtpckhpkbdanjoaaDoor.laysTrim (by kernel_rfl) s ⟨#[46, 35]⟩ w hs (by decide) (ascii_of_all (by decide))
  change Calls Tryd.prog 92 _ _ (fun e w' => e = .returned (.string ⟨(Lib.trimS s.data.toList [46, 35]).toArray⟩) ∧ Below w.heap.size w w') at hcon
  refine hcon.mono fun e w' ⟨he, hb⟩ => ⟨⟨_, he, ?_⟩, hb⟩
  rw [← cel_all, ← trimS_nil, ByteArray.toList_eq]

end Go.Proofs.YtpckhpkbdanjoaaDoor
