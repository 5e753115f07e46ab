/-
  Texts of this proof, one behind the other (part 2).
-/
import Derived.Test.YtnfhgnibjebmlaaQ1
import Derived.Deep.LoopGhost
import Derived.ArgAppend
import Derived.Deep.DeepAppendRoom
/-
  Plain laws on cylinders: litres, pressures after use, leading runs. No program in sight.-/
namespace Go.Proofs.Ytnfhgnibjebmlaa
set_option linter.unusedVariables false
set_option linter.unusedSimpArgs false

def inB (n a b : Int) : Bool := decide (a ≤ n) && decide (n ≤ b)
theorem inB_iff {n a b : Int} : inB n a b = true ↔ a ≤ n ∧ n ≤ b := by simp [inB]
theorem inB_no {n a b : Int} : inB n a b = false ↔ n < a ∨ b < n := by simp [inB]; omega

def cylB (v b : Int) : Bool := inB v 10 3000 && inB b 0 330
theorem cylB_iff {v b : Int} : cylB v b = true ↔ (10 ≤ v ∧ v ≤ 3000) ∧ 0 ≤ b ∧ b ≤ 330 := by simp [cylB, inB_iff]

/-- The pressure that counts. -/
def eff (b : Int) : Int := if 200 < b then 200 + 9 * (b - 200) / 10 else b
def lit (v b : Int) : Int := v * eff b / 10
theorem eff_mono {a b : Int} (h : a ≤ b) : eff a ≤ eff b := by unfold eff; split <;> split <;> omega
theorem eff_bd {b : Int} (h0 : 0 ≤ b) (h1 : b ≤ 330) : 0 ≤ eff b ∧ eff b ≤ 317 := by unfold eff; split <;> omega
theorem lit_mono {v a b : Int} (hv : 0 ≤ v) (h : a ≤ b) : lit v a ≤ lit v b := by
  unfold lit
  have := Int.mul_le_mul_of_nonneg_left (eff_mono h) hv
  omega
theorem lit_zero (v : Int) : lit v 0 = 0 := by simp [lit, eff]
theorem mul_bd {v e : Int} (hv : 0 ≤ v) (hv' : v ≤ 3000) (he : 0 ≤ e) (he' : e ≤ 317) : 0 ≤ v * e ∧ v * e ≤ 951000 := by
  refine ⟨Int.mul_nonneg hv he, ?_⟩
  have h1 := Int.mul_le_mul_of_nonneg_left he' hv
  have h2 := Int.mul_le_mul_of_nonneg_right hv' (show (0 : Int) ≤ 317 by omega)
  omega
theorem lit_bd {v b : Int} (hv : 0 ≤ v) (hv' : v ≤ 3000) (h0 : 0 ≤ b) (h1 : b ≤ 330) : 0 ≤ lit v b ∧ lit v b ≤ 95100 := by
  have he := eff_bd h0 h1
  have := mul_bd hv hv' he.1 he.2
  unfold lit
  omega

/-- The greatest pressure, at most n, with at most 'left' litres. -/
def down (v left : Int) : Nat → Nat
  | 0 => 0
  | n + 1 => if left < lit v ((n : Int) + 1) then down v left n else n + 1
theorem down_le (v left : Int) (n : Nat) : down v left n ≤ n := by
  induction n with
  | zero => simp [down]
  | succ n ih => unfold down; split <;> omega
theorem down_lit {v left : Int} (h : 0 ≤ left) (n : Nat) : lit v (down v left n : Nat) ≤ left := by
  induction n with
  | zero => simp [down, lit_zero]; exact h
  | succ n ih =>
    unfold down
    split
    · exact ih
    · rename_i hh; push_cast; omega
theorem down_max {v left : Int} : ∀ {n m : Nat}, m ≤ n → lit v (m : Nat) ≤ left → m ≤ down v left n
  | 0, m, hm, _ => by omega
  | n + 1, m, hm, hl => by
    unfold down
    split
    · rename_i hh
      rcases Nat.lt_or_ge m (n + 1) with h | h
      · exact down_max (by omega) hl
      · obtain rfl : m = n + 1 := by omega
        push_cast at hl
        omega
    · exact hm
theorem down_step {v left : Int} {n m : Nat} (hm : m ≤ n) (h : ∀ j : Nat, m < j → j ≤ n → left < lit v (j : Nat)) (hl : m = 0 ∨ lit v (m : Nat) ≤ left) : down v left n = m := by
  induction n with
  | zero => simp [down]; omega
  | succ n ih =>
    unfold down
    rcases Nat.lt_or_ge m (n + 1) with hlt | hge
    · have h1 := h (n + 1) hlt (Nat.le_refl _)
      push_cast at h1
      rw [if_pos h1]
      exact ih (by omega) fun j h2 h3 => h j h2 (by omega)
    · obtain rfl : m = n + 1 := by omega
      rcases hl with hl | hl
      · omega
      · push_cast at hl
        rw [if_neg (by omega)]
theorem down_anti {v l1 l2 : Int} (hl0 : 0 ≤ l2) (h : l2 ≤ l1) (n : Nat) : down v l2 n ≤ down v l1 n :=
  down_max (down_le _ _ _) (by have := down_lit (v := v) hl0 n; omega)
theorem down_self {v : Int} (n : Nat) : down v (lit v (n : Nat)) n = n :=
  down_step (Nat.le_refl _) (fun j h1 h2 => by omega) (.inr (Int.le_refl _))
/-- From above: the least of b and the greatest pressure at all. -/
theorem down_min {v left : Int} (hv : 0 ≤ v) (h0 : 0 ≤ left) {n N : Nat} (hn : n ≤ N) : min n (down v left N) = down v left n := by
  have h1 := down_le v left n
  have h2 : down v left n ≤ down v left N := down_max (by omega) (down_lit h0 n)
  have h3 : min n (down v left N) ≤ down v left n := by
    refine down_max (Nat.min_le_left _ _) ?_
    have h4 := down_lit (v := v) h0 N
    have h5 : lit v ((min n (down v left N) : Nat) : Int) ≤ lit v ((down v left N : Nat) : Int) := lit_mono hv (by omega)
    omega
  omega

/-- What is left after 'used' litres, if there are so many. -/
def aftOk (v b used : Int) : Bool := decide (used ≤ lit v b)
def aftN (v b used : Int) : Int := if used ≤ lit v b then (down v (lit v b - used) b.toNat : Nat) else 0
theorem aftN_bd {v b used : Int} (h0 : 0 ≤ b) : 0 ≤ aftN v b used ∧ aftN v b used ≤ b := by
  unfold aftN
  have := down_le v (lit v b - used) b.toNat
  split <;> omega
theorem aftN_lit {v b used : Int} (h : used ≤ lit v b) : lit v (aftN v b used) ≤ lit v b - used := by
  unfold aftN
  rw [if_pos h]
  exact down_lit (by omega) _
theorem aftN_anti {v b u1 u2 : Int} (h : u1 ≤ u2) (h2 : u2 ≤ lit v b) : aftN v b u2 ≤ aftN v b u1 := by
  unfold aftN
  rw [if_pos h2, if_pos (by omega)]
  have := down_anti (v := v) (l1 := lit v b - u1) (l2 := lit v b - u2) (by omega) (by omega) b.toNat
  omega
theorem aftN_zero {v b : Int} (h0 : 0 ≤ b) (hl : 0 ≤ lit v b) : aftN v b 0 = b := by
  unfold aftN
  rw [if_pos hl]
  have hb : ((b.toNat : Nat) : Int) = b := Int.toNat_of_nonneg h0
  have := down_self (v := v) b.toNat
  rw [hb] at this
  rw [show lit v b - 0 = lit v b by omega, this, hb]

/-- How many of the first N are so, up to the first that is not. -/
def lead (g : Nat → Bool) : Nat → Nat
  | 0 => 0
  | n + 1 => if g 0 then lead (fun k => g (k + 1)) n + 1 else 0
theorem lead_eq {g : Nat → Bool} : ∀ {N k : Nat}, k ≤ N → (∀ j, j < k → g j = true) → (k = N ∨ g k = false) → lead g N = k := by
  intro N
  induction N generalizing g with
  | zero => intro k hk _ _; simp [lead]; omega
  | succ N ih =>
    intro k hk hj he
    unfold lead
    match k with
    | 0 =>
      rcases he with he | he
      · omega
      · simp [he]
    | k + 1 =>
      rw [if_pos (hj 0 (by omega))]
      rw [ih (g := fun k => g (k + 1)) (k := k) (by omega) (fun j h => hj (j + 1) (by omega)) (by
        rcases he with he | he
        · left; omega
        · right; exact he)]
theorem lead_spec (g : Nat → Bool) : ∀ (N : Nat), lead g N ≤ N ∧ (∀ j, j < lead g N → g j = true) ∧ (lead g N = N ∨ g (lead g N) = false) := by
  intro N
  induction N generalizing g with
  | zero => simp [lead]
  | succ N ih =>
    obtain ⟨h1, h2, h3⟩ := ih (fun k => g (k + 1))
    unfold lead
    by_cases hg : g 0 = true
    · rw [if_pos hg]
      refine ⟨by omega, fun j hj => ?_, ?_⟩
      · match j with
        | 0 => exact hg
        | j + 1 => exact h2 j (by omega)
      · rcases h3 with h3 | h3
        · left; omega
        · right; exact h3
    · rw [if_neg hg]
      refine ⟨by omega, fun j hj => by omega, .inr (by simpa using hg)⟩

/-- After n minutes more than 'first' at least 'bar' is left. -/
def okAt (v b rate first bar : Int) (n : Nat) : Bool := aftOk v b (rate * (first + n)) && decide (bar ≤ aftN v b (rate * (first + n)))
theorem okAt_mono {v b rate first bar : Int} (hr : 0 ≤ rate) {m n : Nat} (h : m ≤ n) (hn : okAt v b rate first bar n = true) : okAt v b rate first bar m = true := by
  simp only [okAt, aftOk, Bool.and_eq_true, decide_eq_true_eq] at hn ⊢
  have h1 : rate * (first + m) ≤ rate * (first + n) := Int.mul_le_mul_of_nonneg_left (by omega) hr
  have := aftN_anti h1 hn.1
  omega
/-- The greatest number of minutes, up to 600, or -1. -/
def timeF (v b rate first bar : Int) : Int := (lead (okAt v b rate first bar) 601 : Nat) - 1
theorem timeF_bd (v b rate first bar : Int) : -1 ≤ timeF v b rate first bar ∧ timeF v b rate first bar ≤ 600 := by
  unfold timeF
  have := (lead_spec (okAt v b rate first bar) 601).1
  omega
theorem timeF_of {v b rate first bar : Int} {k : Nat} (hk : k ≤ 601) (h : ∀ j, j < k → okAt v b rate first bar j = true) (he : k = 601 ∨ okAt v b rate first bar k = false) : timeF v b rate first bar = (k : Int) - 1 := by
  unfold timeF
  rw [lead_eq hk h he]

/-- A rate between two checks, rounded up. -/
def upF (a b : Int) : Int := (a + b - 1) / b
theorem upF_bd {a d : Int} (ha : 0 ≤ a) (ha' : a ≤ 95100) (hd : 1 ≤ d) : 0 ≤ upF a d ∧ upF a d ≤ 95100 := by
  unfold upF
  refine ⟨Int.ediv_nonneg (by omega) (by omega), ?_⟩
  have h1 : (a + d - 1) / d < 95101 := by
    rw [Int.ediv_lt_iff_lt_mul (by omega)]
    have h2 : 95101 * 1 ≤ 95101 * d := Int.mul_le_mul_of_nonneg_left hd (by omega)
    have h3 : 95101 * d = 95100 * d + d := by omega
    have h4 : 95100 * 1 ≤ 95100 * d := Int.mul_le_mul_of_nonneg_left hd (by omega)
    omega
  omega

end Go.Proofs.Ytnfhgnibjebmlaa

/-
  Walks: the smallest functions: bounds, the lesser, the greater, a quotient rounded up.-/
namespace Go.Proofs.Ytnfhgnibjebmlaa
set_option linter.unusedVariables false
set_option linter.unusedSimpArgs false
open Go.RowKit

set_option maxHeartbeats 400000 in
theorem inside_any (n a b : Int) (w : World) :
    Calls Try.prog 49 #[.int .i64 n, .int .i64 a, .int .i64 b] w fun e w' => e = .returned (.bool (inB n a b)) ∧ w = w' := by
  go_enter Try.func49, Try.ntmps49
  go_wp2
  all_goals (go_ret; rename_i h)
  · exact ⟨ret_bool (by simp [inB, h]), rfl⟩
  · exact ⟨ret_bool (by simp [inB]; omega), rfl⟩
set_option maxHeartbeats 400000 in
theorem l1In_any (n a b : Int) (w : World) :
    Calls Try.prog 71 #[.int .i64 n, .int .i64 a, .int .i64 b] w fun e w' => e = .returned (.bool (inB n a b)) ∧ w = w' := by
  go_enter Try.func71, Try.ntmps71
  go_wp2
  all_goals (go_ret; rename_i h)
  · exact ⟨ret_bool (by simp [inB, h]), rfl⟩
  · exact ⟨ret_bool (by simp [inB]; omega), rfl⟩
set_option maxHeartbeats 400000 in
theorem l1Least_any (a b : Int) (w : World) :
    Calls Try.prog 90 #[.int .i64 a, .int .i64 b] w fun e w' => e = .returned (.int .i64 (min a b)) ∧ w = w' := by
  by_cases h : a < b
  · go_enter Try.func90, Try.ntmps90
    go_wp2
    go_ret
    exact ⟨ret_int (by omega), rfl⟩
  · go_enter Try.func90, Try.ntmps90
    go_wp2
    go_ret
    exact ⟨ret_int (by omega), rfl⟩
set_option maxHeartbeats 400000 in
theorem upTo_any (a d : Int) (w : World) (ha : 0 ≤ a) (ha' : a ≤ 100000) (hd : 1 ≤ d) (hd' : d ≤ 100000) :
    Calls Try.prog 94 #[.int .i64 a, .int .i64 d] w fun e w' => e = .returned (.int .i64 (upF a d)) ∧ w = w' := by
  have hd2 : (d == 0) = false := by simp; omega
  go_enter Try.func94, Try.ntmps94
  go_wp2_with fail
  go_ret
  exact ⟨ret_int rfl, rfl⟩
set_option maxHeartbeats 400000 in
theorem l1Most_any (a b : Int) (w : World) :
    Calls Try.prog 82 #[.int .i64 a, .int .i64 b] w fun e w' => e = .returned (.int .i64 (max a b)) ∧ w = w' := by
  by_cases h : b < a
  · go_enter Try.func82, Try.ntmps82
    go_wp2
    go_ret
    exact ⟨ret_int (by omega), rfl⟩
  · go_enter Try.func82, Try.ntmps82
    go_wp2
    go_ret
    exact ⟨ret_int (by omega), rfl⟩

end Go.Proofs.Ytnfhgnibjebmlaa

/-
  Walks: what the reference draws of lists of checks, cylinders, rates: whatever it is.-/
namespace Go.Proofs.Ytnfhgnibjebmlaa
set_option linter.unusedVariables false
set_option linter.unusedSimpArgs false
open Go.RowKit

/-- A row of whole numbers of the call's own: n elements of sz cells. -/
def IRow (w : World) (lo sz : Nat) (v : Value) (n : Nat) : Prop :=
  (v = .slice none 0 0 ∧ n = 0) ∨ ∃ q cap, v = .slice (some ⟨q, 0, none⟩) n cap ∧ n ≤ cap ∧ lo ≤ q ∧ q < w.heap.size ∧ (∀ o, w.frozen? ⟨q, o, none⟩ = false) ∧ ∀ o, o < n * sz → ∃ x, w.cell? ⟨q, o, none⟩ = some (.int .i64 x)
section
variable {w w' : World} {lo sz n g E : Nat} {v : Value} {xs : List Value}
theorem IRow.of_own (h : w.ownsRow lo E sz v n xs) (hx : ∀ u ∈ xs, isI u = true) : IRow w lo sz v n := by
  rcases h.2 with ⟨h0, h1⟩ | ⟨q, cap, cur, rfl, hq, hh, hnc, _⟩
  · exact .inl ⟨h0, h1⟩
  · refine .inr ⟨q, cap, rfl, hnc, hq, (h.lt q rfl).2, fun o => h.frozenAt o, fun o ho => ?_⟩
    have h2 := h.cellAt o ho
    have h3 : o < xs.length := by rw [h.1]; exact ho
    rw [List.getElem?_eq_getElem h3] at h2
    obtain ⟨x, hx'⟩ := isI_int (hx _ (List.getElem_mem h3))
    exact ⟨x, by rw [h2, hx']⟩
theorem IRow.keep (h : IRow w lo sz v n) (hk : ∀ q, lo ≤ q → q < w.heap.size → w'.heap[q]? = w.heap[q]?) (hs : w.heap.size ≤ w'.heap.size) : IRow w' lo sz v n := by
  rcases h with h | ⟨q, cap, h0, h1, h2, h3, h4, h5⟩
  · exact .inl h
  · refine .inr ⟨q, cap, h0, h1, h2, by omega, fun o => (World.frozen?_of_block (a := ⟨q, o, none⟩) (hk q h2 h3)).trans (h4 o), fun o ho => ?_⟩
    obtain ⟨x, hx⟩ := h5 o ho
    exact ⟨x, (World.cell?_of_block (a := ⟨q, o, none⟩) (hk q h2 h3)).trans hx⟩
theorem IRow.only (h : IRow w lo sz v n) (hO : Only g (g + 1) w w') (hg : g < lo) : IRow w' lo sz v n := h.keep (fun q h1 h2 => hO.block q h2 (by omega)) hO.size
theorem IRow.alloc (h : IRow w lo sz v n) (o : Obj) : IRow (w.alloc o) lo sz v n := h.keep (fun q _ h2 => ((Below.refl _ _).alloc (Nat.le_refl _) o).block q h2) (by simp)
theorem IRow.below (h : IRow w lo sz v n) (hb : Below w.heap.size w w') : IRow w' lo sz v n := h.keep (fun q _ h2 => hb.block q h2) hb.size
theorem IRow.drewN (h : IRow w lo sz v n) (k : Nat) : IRow (w.drewN k) lo sz v n := h.keep (fun _ _ _ => rfl) (Nat.le_refl _)
theorem IRow.set {q cap o : Nat} (h : IRow w lo sz (.slice (some ⟨q, 0, none⟩) n cap) n) (x : Int) : IRow (w.setCell ⟨q, o, none⟩ (.int .i64 x)) lo sz (.slice (some ⟨q, 0, none⟩) n cap) n := by
  rcases h with ⟨h, _⟩ | ⟨q', cap', h0, h1, h2, h3, h4, h5⟩
  · cases h
  · cases h0
    refine .inr ⟨q, cap, rfl, h1, h2, by simp [World.setCell]; exact h3, fun o' => by simp [go_sem, h4], fun o' ho => ?_⟩
    obtain ⟨y, hy⟩ := h5 o' ho
    by_cases e : o' = o
    · subst e
      exact ⟨x, by simp [go_sem, hy]⟩
    · exact ⟨y, (World.cell?_setCell_other w ⟨q, o, none⟩ ⟨q, o', none⟩ _ (fun h => e (by cases h; rfl))).trans hy⟩
/-- A number that lies in a cell. -/
noncomputable def atI (w : World) (q o : Nat) : Int := match w.cell? ⟨q, o, none⟩ with
  | some (.int .i64 x) => x
  | _ => 0
theorem atI_eq {q o : Nat} (h : ∃ x, w.cell? ⟨q, o, none⟩ = some (.int .i64 x)) : w.cell? ⟨q, o, none⟩ = some (.int .i64 (atI w q o)) := by
  obtain ⟨x, hx⟩ := h
  rw [atI, hx]
theorem IRow.sl1 (h : IRow w lo 1 v n) : ∃ f : Nat → Int, Sl w lo w.heap.size 1 v n (fun i _ => .int .i64 (f i)) := by
  rcases h with ⟨rfl, rfl⟩ | ⟨q, cap, rfl, h1, h2, h3, h4, h5⟩
  · exact ⟨fun _ => 0, Sl.nil_⟩
  · refine ⟨fun i => atI w q i, _, _, rfl, h1, fun hn => ⟨q, 0, rfl, h2, h3, fun i j hi hj => ?_⟩⟩
    obtain rfl : j = 0 := by omega
    simp only [Nat.mul_one, Nat.add_zero, Nat.zero_add]
    exact atI_eq (h5 i (by omega))
theorem IRow.sl2 (h : IRow w lo 2 v n) : ∃ f k : Nat → Int, Sl w lo w.heap.size 2 v n (iiC f k) := by
  rcases h with ⟨rfl, rfl⟩ | ⟨q, cap, rfl, h1, h2, h3, h4, h5⟩
  · exact ⟨fun _ => 0, fun _ => 0, Sl.nil_⟩
  · refine ⟨fun i => atI w q (i * 2), fun i => atI w q (i * 2 + 1), _, _, rfl, h1, fun hn => ⟨q, 0, rfl, h2, h3, fun i j hi hj => ?_⟩⟩
    have hj' : j = 0 ∨ j = 1 := by omega
    rcases hj' with rfl | rfl
    · simp only [Nat.add_zero, Nat.zero_add]
      exact atI_eq (h5 (i * 2) (by omega))
    · simp only [Nat.zero_add]
      exact atI_eq (h5 (i * 2 + 1) (by omega))
theorem row_only (h : w.ownsRow lo E sz v n xs) (hO : Only g (g + 1) w w') (hg : g < lo) : w'.ownsRow lo E sz v n xs := by
  obtain ⟨hl, h1⟩ := id h
  refine ⟨hl, ?_⟩
  rcases h1 with h1 | ⟨q, cap, cur, rfl, hq, hh, r⟩
  · exact .inl h1
  · exact .inr ⟨q, cap, cur, rfl, hq, by rw [hO.block q (h.lt q rfl).2 (by omega)]; exact hh, r⟩
end
theorem infoInt : (Try.prog.info? 3).map (fun i => (i.zero, i.size, i.bytes)) = some (some (.int .i64 0), 1, 8) := by kernel_rfl
theorem infoCheck : (Try.prog.info? 56).map (fun i => (i.zero, i.size, i.bytes)) = some (some (.agg #[.int .i64 0, .int .i64 0]), 2, 16) := by kernel_rfl
theorem infoCyl : (Try.prog.info? 85).map (fun i => (i.zero, i.size, i.bytes)) = some (some (.agg #[.int .i64 0, .int .i64 0]), 2, 16) := by kernel_rfl

end Go.Proofs.Ytnfhgnibjebmlaa

/-
  Walks: what the reference draws as a list of checks: whatever it is.-/
namespace Go.Proofs.Ytnfhgnibjebmlaa
set_option linter.unusedVariables false
set_option linter.unusedSimpArgs false
open Go.RowKit

theorem Only.grown {lo hi : Nat} {w w1 w2 : World} {row : Option Nat} (h : Only lo hi w w1) (hg : w1.grownBy w2 row) (hr : ∀ q, row = some q → w.heap.size ≤ q) : Only lo hi w w2 :=
  ⟨hg.os.trans h.os, hg.tape.trans h.tape, hg.output.trans h.output, Nat.le_trans h.size hg.size, fun k h1 h2 => (hg.block k (Nat.lt_of_lt_of_le h1 h.size) (fun e => by have := hr k e.symm; omega)).trans (h.block k h1 h2)⟩
theorem Cu.grown {w w' : World} {g m : Nat} {row : Option Nat} (h : Cu w g m) (hg : w.grownBy w' row) (hr : ∀ q, row = some q → g < q) : Cu w' g m := by
  obtain ⟨a, ha, A, L, cap, f, s, h0, h1, h2, h3, h4, h5, h6, h7, h8⟩ := h
  have hgb : w'.heap[g]? = w.heap[g]? := hg.block g h8 (fun e => by have := hr g e.symm; omega)
  refine ⟨a, ha, A, L, cap, f, s, (World.cell?_of_block (a := ⟨g, 0, none⟩) hgb).trans h0, (World.cell?_of_block (a := ⟨g, 1, none⟩) hgb).trans h1, (World.cell?_of_block (a := ⟨g, 2, none⟩) hgb).trans h2, fun o => (World.frozen?_of_block (a := ⟨g, o, none⟩) hgb).trans (h3 o), h4, h5, h6, fun hL => ?_, Nat.lt_of_lt_of_le h8 hg.size⟩
  obtain ⟨b, off, e, hne, hlt, hc⟩ := h7 hL
  have hb : w'.heap[b]? = w.heap[b]? := hg.block b hlt (fun e => by have := hr b e.symm; omega)
  exact ⟨b, off, e, hne, Nat.lt_of_lt_of_le hlt hg.size, fun i hi => (World.cell?_of_block (a := ⟨b, off + i, none⟩) hb).trans (hc i hi)⟩
set_option maxRecDepth 100000 in
set_option maxHeartbeats 6400000 in
theorem checks_any (g m : Nat) (w : World) (h : Cu w g m) (hm : m < 100000000) :
    Calls Try.prog 63 #[.pointer (some ⟨g, 0, none⟩)] w fun e w' => ∃ v : Value, e = .returned v ∧ ∃ n : Nat, IRow w' w.heap.size 2 v n ∧ n ≤ 21 ∧ Cu w' g (m + 200) ∧ Only g (g + 1) w w' := by
  have hg := h.lt
  obtain ⟨i0, hi0, iz0, iz1, iz2⟩ := info_parts infoCheck
  go_enter Try.func63, Try.ntmps63
  go_wp2_with fail
  refine (pick_any g _ _ _ (by repeat (first | (with_reducible refine Cu.alloc ?_ _) | (with_reducible refine Cu.drewN ?_ _) | (with_reducible refine Cu.drew ?_) | (with_reducible assumption))) (by omega)).mono ?_
  rintro e w1 ⟨v1, rfl, hv1, hC1, hO1⟩
  have hz1 := hO1.size
  (try (simp at hz1))
  go_wp2_with fail
  refine (one_any g _ _ _ (by repeat (first | (with_reducible refine Cu.alloc ?_ _) | (with_reducible refine Cu.drewN ?_ _) | (with_reducible refine Cu.drew ?_) | (with_reducible assumption))) (by omega)).mono ?_
  rintro e w2 ⟨b2, rfl, hC2, hO2⟩
  have hz2 := hO2.size
  (try (simp at hz2))
  cases b2 with
  | true =>
    go_wp2_with fail
    refine (among_new g _ _ _ _ _ _ (by repeat (first | (with_reducible refine Cu.alloc ?_ _) | (with_reducible refine Cu.drewN ?_ _) | (with_reducible refine Cu.drew ?_) | (with_reducible assumption))) (by first | (with_reducible rfl) | simp) (by omega) (by rfl) (by decide) (by decide) (by simp [isI])).mono ?_
    rintro e w3 ⟨v3, rfl, hM3, hC3, hO3⟩
    have hz3 := hO3.size
    (try (simp at hz3))
    simp at hM3
    obtain ⟨N, hN, hN0⟩ : ∃ N : Int, N = v3 ∧ 0 ≤ N ∧ N ≤ 21 := ⟨v3, rfl, by omega⟩
    subst hN
    have OA : Only g (g + 1) w w3 := (hO1.trans hO2).trans hO3
    clear hO1 hO2 hO3 hC1 hC2 hM3
    go_wp2_with fail
    refine (pick_any g _ _ _ (by repeat (first | (with_reducible refine Cu.alloc ?_ _) | (with_reducible refine Cu.drewN ?_ _) | (with_reducible refine Cu.drew ?_) | (with_reducible assumption))) (by omega)).mono ?_
    rintro e w5 ⟨v5, rfl, hv5, hC5, hO5⟩
    have hz5 := hO5.size
    (try (simp at hz5))
    go_wp2_with fail
    refine (among_new g _ _ _ _ _ _ (by repeat (first | (with_reducible refine Cu.alloc ?_ _) | (with_reducible refine Cu.drewN ?_ _) | (with_reducible refine Cu.drew ?_) | (with_reducible assumption))) (by first | (with_reducible rfl) | simp) (by omega) (by rfl) (by decide) (by decide) (by simp [isI])).mono ?_
    rintro e w6 ⟨v6, rfl, hM6, hC6, hO6⟩
    have hz6 := hO6.size
    (try (simp at hz6))
    have OB : Only g (g + 1) w w6 := (OA.trans hO5).trans hO6
    have CB : Cu w6 g (m + 20) := hC6.more (by omega)
    clear OA hO5 hO6 hC5 hC6
    go_wp2_with fail
    go_loopg [3, 5, 6] 25 (fun gn lv mv bv wr => ∃ (k : Nat) (B : Option Addr) (cp : Nat) (xs : List Value) (mi ba : Int), (k : Int) ≤ N ∧ N.toNat - k < gn ∧ lv = .slice B k cp ∧ mv = .int .i64 mi ∧ bv = .int .i64 ba ∧ Hid (wr.ownsRow w.heap.size 56 2 (.slice B k cp) k xs) ∧ Hid (∀ u ∈ xs, isI u = true) ∧ Cu wr g (m + 20 + 4 * k) ∧ Only g (g + 1) w wr)
    case atStart => exact ⟨0, none, 0, [], _, _, by omega, by omega, rfl, rfl, rfl, World.ownsRow_nil _ _ _ _, fun u hu => by simp at hu, CB, OB⟩
    case round =>
      obtain ⟨k, B, cp, xs, mi, ba, hk, hgn, rfl, rfl, rfl, hown, hxs, hCr, hOr⟩ := hrel
      have hzr := hOr.size
      by_cases hkn : (k : Int) < N
      · go_wp2_with (at_builtin; refine wpList_append_own _ rfl _ _ 25 rfl w.heap.size 56 i0 (.agg #[.int .i64 0, .int .i64 0]) 2 16 Try.underlying25 hi0 iz0 iz1 iz2 rfl (by decide) _ _ _ rfl (hown.out.alloc _) ⟨wr.heap.size, 0, none⟩ 1 1 [.int .i64 mi, .int .i64 ba] rfl rfl ?_ ?_ ?_ ?_ ?_ ?_)
        · intro i u hu
          match i, hu with
          | 0, hu => simp at hu; subst hu; simp [go_sem, Addr.add]
          | 1, hu => simp at hu; subst hu; simp [go_sem, Addr.add]
        · intro u hu
          simp at hu
          rcases hu with rfl | rfl <;> rfl
        · unfold maxLen; omega
        · omega
        · simp; omega
        intro v' w2 hown2 hg2 _
        have hO2 : Only g (g + 1) w w2 := (hOr.alloc _).grown hg2 (fun q hq => (hown.out.lt q hq).1)
        have hC2 : Cu w2 g (m + 20 + 4 * k) := (hCr.alloc _).grown hg2 (fun q hq => by have := (hown.out.lt q hq).1; omega)
        obtain ⟨B2, cp2, rfl⟩ := row_form hown2
        have hxs2 : Hid (∀ u ∈ xs ++ [.int .i64 mi, .int .i64 ba], isI u = true) := fun u hu => by
          rcases List.mem_append.1 hu with h1 | h1
          · exact hxs.out u h1
          · simp at h1
            rcases h1 with rfl | rfl <;> rfl
        have hown3 := hide hown2
        have hz2 := hO2.size
        clear hown hown2 hg2 hxs hCr hOr hzr
        go_wp2_with fail
        refine (among_new g _ _ _ _ _ _ (by repeat (first | (with_reducible refine Cu.alloc ?_ _) | (with_reducible refine Cu.drewN ?_ _) | (with_reducible refine Cu.drew ?_) | (with_reducible assumption))) (by first | (with_reducible rfl) | simp) (by omega) (by rfl) (by decide) (by decide) (by simp [isI])).mono ?_
        rintro e w3 ⟨v3, rfl, hM3, hC3, hO3⟩
        have hz3 := hO3.size
        (try (simp at hz3))
        go_wp2_with fail
        refine (among_new g _ _ _ _ _ _ (by repeat (first | (with_reducible refine Cu.alloc ?_ _) | (with_reducible refine Cu.drewN ?_ _) | (with_reducible refine Cu.drew ?_) | (with_reducible assumption))) (by first | (with_reducible rfl) | simp) (by omega) (by rfl) (by decide) (by decide) (by simp [isI])).mono ?_
        rintro e w4 ⟨v4, rfl, hM4, hC4, hO4⟩
        have hz4 := hO4.size
        (try (simp at hz4))
        go_wp2_with fail
        refine (l1Most_any _ _ _).mono ?_
        rintro e w5 ⟨rfl, rfl⟩
        have hr4 := hide (row_only (row_only hown3.out hO3 (by omega)) hO4 (by omega))
        have O4 : Only g (g + 1) w w4 := (hO2.trans hO3).trans hO4
        clear hown3 hO2 hO3 hO4
        go_wp2_with fail
        go_roundg (N.toNat - k)
        case measure => omega
        case rel => exact ⟨k + 1, B2, cp2, _, _, _, by omega, by omega, rfl, rfl, rfl, hr4, hxs2, hC4.more (by omega), O4⟩
      · have ek : (k : Int) = N := by omega
        have hR : IRow wr w.heap.size 2 (.slice B k cp) k := IRow.of_own hown.out hxs.out
        clear hown hxs
        by_cases hN0 : N > 0
        · go_wp2_with fail
          refine (one_any g _ _ _ (by repeat (first | (with_reducible refine Cu.alloc ?_ _) | (with_reducible refine Cu.drewN ?_ _) | (with_reducible refine Cu.drew ?_) | (with_reducible assumption))) (by omega)).mono ?_
          rintro e w7 ⟨b7, rfl, hC7, hO7⟩
          have hz7 := hO7.size
          (try (simp at hz7))
          cases b7 with
          | false =>
            have hR7 := hR.only hO7 (by omega)
            have O7 := hOr.trans hO7
            clear hR hO7 hOr
            go_wp2_with fail
            go_ret
            exact ⟨_, rfl, k, hR7, by omega, hC7.more (by omega), O7⟩
          | true =>
            go_wp2_with fail
            refine (pick_any g _ _ _ (by repeat (first | (with_reducible refine Cu.alloc ?_ _) | (with_reducible refine Cu.drewN ?_ _) | (with_reducible refine Cu.drew ?_) | (with_reducible assumption))) (by omega)).mono ?_
            rintro e w8 ⟨v8, rfl, hv8, hC8, hO8⟩
            have hz8 := hO8.size
            (try (simp at hz8))
            obtain ⟨kk, rfl⟩ : ∃ kk : Nat, v8 = kk := ⟨v8.toNat, by omega⟩
            have hkk : kk < k := by omega
            go_wp2_with fail
            refine (among_new g _ _ _ _ _ _ (by repeat (first | (with_reducible refine Cu.alloc ?_ _) | (with_reducible refine Cu.drewN ?_ _) | (with_reducible refine Cu.drew ?_) | (with_reducible assumption))) (by first | (with_reducible rfl) | simp) (by omega) (by rfl) (by decide) (by decide) (by simp [isI])).mono ?_
            rintro e w9 ⟨v9, rfl, hM9, hC9, hO9⟩
            have hz9 := hO9.size
            (try (simp at hz9))
            have hR9 := ((hR.only hO7 (by omega)).only hO8 (by omega)).only hO9 (by omega)
            have O9 := ((hOr.trans hO7).trans hO8).trans hO9
            clear hR hO7 hO8 hO9 hOr
            rcases id hR9 with ⟨_, h0⟩ | ⟨q, cq, h0, hq1, hq2, hq3, hq4, hq5⟩
            · omega
            cases h0
            obtain ⟨y1, hy1⟩ := hq5 (kk * 2 + 1) (by omega)
            obtain ⟨y0, hy0⟩ := hq5 (kk * 2) (by omega)
            clear hq5
            have hR10 : Hid (IRow (w9.setCell ⟨q, kk * 2 + 1, none⟩ (.int .i64 v9)) w.heap.size 2 (.slice (some ⟨q, 0, none⟩) k cp) k) := hR9.set v9
            have O10 : Only g (g + 1) w (w9.setCell ⟨q, kk * 2 + 1, none⟩ (.int .i64 v9)) := O9.setNew (a := ⟨q, kk * 2 + 1, none⟩) (by show w.heap.size ≤ q; omega) _
            have hC10 : Cu (w9.setCell ⟨q, kk * 2 + 1, none⟩ (.int .i64 v9)) g _ := hC9.set (p := ⟨q, kk * 2 + 1, none⟩) (by show g < q; omega) _
            clear hR9 O9 hC9
            go_wp2_with fail
            refine (among_new g _ _ _ _ _ _ (by repeat (first | (with_reducible refine Cu.alloc ?_ _) | (with_reducible refine Cu.drewN ?_ _) | (with_reducible refine Cu.drew ?_) | (with_reducible assumption))) (by first | (with_reducible rfl) | simp) (by omega) (by rfl) (by decide) (by decide) (by simp [isI])).mono ?_
            rintro e w11 ⟨v11, rfl, hM11, hC11, hO11⟩
            have hz11 := hO11.size
            (try (simp at hz11))
            have hR11 := hR10.out.only hO11 (by omega)
            have O11 := O10.trans hO11
            clear hR10 hC10 O10 hO11
            rcases id hR11 with ⟨_, h0⟩ | ⟨q2, cq2, h0, gq1, gq2, gq3, gq4, gq5⟩
            · omega
            cases h0
            obtain ⟨z0, hz0⟩ := gq5 (kk * 2) (by omega)
            clear gq5
            go_wp2_with fail
            go_ret
            exact ⟨_, rfl, k, hR11.set v11, by omega, (hC11.set (p := ⟨q, kk * 2, none⟩) (by show g < q; omega) _).more (by omega), O11.setNew (a := ⟨q, kk * 2, none⟩) (by show w.heap.size ≤ q; omega) _⟩
        · go_wp2_with fail
          go_ret
          exact ⟨_, rfl, k, hR, by omega, hCr.more (by omega), hOr⟩
  | false =>
    obtain ⟨N, hN, hN0⟩ : ∃ N : Int, N = 1 + v1 ∧ 0 ≤ N ∧ N ≤ 21 := ⟨1 + v1, rfl, by omega⟩
    have zN : IntKind.i64.wrap (1 + v1) = 1 + v1 := IntWalk.i64_in _ (by omega)
    have OA : Only g (g + 1) w w2 := hO1.trans hO2
    clear hO1 hO2 hC1
    (try rw [← hN])
    clear hN zN
    go_wp2_with fail
    refine (pick_any g _ _ _ (by repeat (first | (with_reducible refine Cu.alloc ?_ _) | (with_reducible refine Cu.drewN ?_ _) | (with_reducible refine Cu.drew ?_) | (with_reducible assumption))) (by omega)).mono ?_
    rintro e w5 ⟨v5, rfl, hv5, hC5, hO5⟩
    have hz5 := hO5.size
    (try (simp at hz5))
    go_wp2_with fail
    refine (among_new g _ _ _ _ _ _ (by repeat (first | (with_reducible refine Cu.alloc ?_ _) | (with_reducible refine Cu.drewN ?_ _) | (with_reducible refine Cu.drew ?_) | (with_reducible assumption))) (by first | (with_reducible rfl) | simp) (by omega) (by rfl) (by decide) (by decide) (by simp [isI])).mono ?_
    rintro e w6 ⟨v6, rfl, hM6, hC6, hO6⟩
    have hz6 := hO6.size
    (try (simp at hz6))
    have OB : Only g (g + 1) w w6 := (OA.trans hO5).trans hO6
    have CB : Cu w6 g (m + 20) := hC6.more (by omega)
    clear OA hO5 hO6 hC5 hC6
    go_wp2_with fail
    go_loopg [3, 5, 6] 25 (fun gn lv mv bv wr => ∃ (k : Nat) (B : Option Addr) (cp : Nat) (xs : List Value) (mi ba : Int), (k : Int) ≤ N ∧ N.toNat - k < gn ∧ lv = .slice B k cp ∧ mv = .int .i64 mi ∧ bv = .int .i64 ba ∧ Hid (wr.ownsRow w.heap.size 56 2 (.slice B k cp) k xs) ∧ Hid (∀ u ∈ xs, isI u = true) ∧ Cu wr g (m + 20 + 4 * k) ∧ Only g (g + 1) w wr)
    case atStart => exact ⟨0, none, 0, [], _, _, by omega, by omega, rfl, rfl, rfl, World.ownsRow_nil _ _ _ _, fun u hu => by simp at hu, CB, OB⟩
    case round =>
      obtain ⟨k, B, cp, xs, mi, ba, hk, hgn, rfl, rfl, rfl, hown, hxs, hCr, hOr⟩ := hrel
      have hzr := hOr.size
      by_cases hkn : (k : Int) < N
      · go_wp2_with (at_builtin; refine wpList_append_own _ rfl _ _ 25 rfl w.heap.size 56 i0 (.agg #[.int .i64 0, .int .i64 0]) 2 16 Try.underlying25 hi0 iz0 iz1 iz2 rfl (by decide) _ _ _ rfl (hown.out.alloc _) ⟨wr.heap.size, 0, none⟩ 1 1 [.int .i64 mi, .int .i64 ba] rfl rfl ?_ ?_ ?_ ?_ ?_ ?_)
        · intro i u hu
          match i, hu with
          | 0, hu => simp at hu; subst hu; simp [go_sem, Addr.add]
          | 1, hu => simp at hu; subst hu; simp [go_sem, Addr.add]
        · intro u hu
          simp at hu
          rcases hu with rfl | rfl <;> rfl
        · unfold maxLen; omega
        · omega
        · simp; omega
        intro v' w2 hown2 hg2 _
        have hO2 : Only g (g + 1) w w2 := (hOr.alloc _).grown hg2 (fun q hq => (hown.out.lt q hq).1)
        have hC2 : Cu w2 g (m + 20 + 4 * k) := (hCr.alloc _).grown hg2 (fun q hq => by have := (hown.out.lt q hq).1; omega)
        obtain ⟨B2, cp2, rfl⟩ := row_form hown2
        have hxs2 : Hid (∀ u ∈ xs ++ [.int .i64 mi, .int .i64 ba], isI u = true) := fun u hu => by
          rcases List.mem_append.1 hu with h1 | h1
          · exact hxs.out u h1
          · simp at h1
            rcases h1 with rfl | rfl <;> rfl
        have hown3 := hide hown2
        have hz2 := hO2.size
        clear hown hown2 hg2 hxs hCr hOr hzr
        go_wp2_with fail
        refine (among_new g _ _ _ _ _ _ (by repeat (first | (with_reducible refine Cu.alloc ?_ _) | (with_reducible refine Cu.drewN ?_ _) | (with_reducible refine Cu.drew ?_) | (with_reducible assumption))) (by first | (with_reducible rfl) | simp) (by omega) (by rfl) (by decide) (by decide) (by simp [isI])).mono ?_
        rintro e w3 ⟨v3, rfl, hM3, hC3, hO3⟩
        have hz3 := hO3.size
        (try (simp at hz3))
        go_wp2_with fail
        refine (among_new g _ _ _ _ _ _ (by repeat (first | (with_reducible refine Cu.alloc ?_ _) | (with_reducible refine Cu.drewN ?_ _) | (with_reducible refine Cu.drew ?_) | (with_reducible assumption))) (by first | (with_reducible rfl) | simp) (by omega) (by rfl) (by decide) (by decide) (by simp [isI])).mono ?_
        rintro e w4 ⟨v4, rfl, hM4, hC4, hO4⟩
        have hz4 := hO4.size
        (try (simp at hz4))
        go_wp2_with fail
        refine (l1Most_any _ _ _).mono ?_
        rintro e w5 ⟨rfl, rfl⟩
        have hr4 := hide (row_only (row_only hown3.out hO3 (by omega)) hO4 (by omega))
        have O4 : Only g (g + 1) w w4 := (hO2.trans hO3).trans hO4
        clear hown3 hO2 hO3 hO4
        go_wp2_with fail
        go_roundg (N.toNat - k)
        case measure => omega
        case rel => exact ⟨k + 1, B2, cp2, _, _, _, by omega, by omega, rfl, rfl, rfl, hr4, hxs2, hC4.more (by omega), O4⟩
      · have ek : (k : Int) = N := by omega
        have hR : IRow wr w.heap.size 2 (.slice B k cp) k := IRow.of_own hown.out hxs.out
        clear hown hxs
        by_cases hN0 : N > 0
        · go_wp2_with fail
          refine (one_any g _ _ _ (by repeat (first | (with_reducible refine Cu.alloc ?_ _) | (with_reducible refine Cu.drewN ?_ _) | (with_reducible refine Cu.drew ?_) | (with_reducible assumption))) (by omega)).mono ?_
          rintro e w7 ⟨b7, rfl, hC7, hO7⟩
          have hz7 := hO7.size
          (try (simp at hz7))
          cases b7 with
          | false =>
            have hR7 := hR.only hO7 (by omega)
            have O7 := hOr.trans hO7
            clear hR hO7 hOr
            go_wp2_with fail
            go_ret
            exact ⟨_, rfl, k, hR7, by omega, hC7.more (by omega), O7⟩
          | true =>
            go_wp2_with fail
            refine (pick_any g _ _ _ (by repeat (first | (with_reducible refine Cu.alloc ?_ _) | (with_reducible refine Cu.drewN ?_ _) | (with_reducible refine Cu.drew ?_) | (with_reducible assumption))) (by omega)).mono ?_
            rintro e w8 ⟨v8, rfl, hv8, hC8, hO8⟩
            have hz8 := hO8.size
            (try (simp at hz8))
            obtain ⟨kk, rfl⟩ : ∃ kk : Nat, v8 = kk := ⟨v8.toNat, by omega⟩
            have hkk : kk < k := by omega
            go_wp2_with fail
            refine (among_new g _ _ _ _ _ _ (by repeat (first | (with_reducible refine Cu.alloc ?_ _) | (with_reducible refine Cu.drewN ?_ _) | (with_reducible refine Cu.drew ?_) | (with_reducible assumption))) (by first | (with_reducible rfl) | simp) (by omega) (by rfl) (by decide) (by decide) (by simp [isI])).mono ?_
            rintro e w9 ⟨v9, rfl, hM9, hC9, hO9⟩
            have hz9 := hO9.size
            (try (simp at hz9))
            have hR9 := ((hR.only hO7 (by omega)).only hO8 (by omega)).only hO9 (by omega)
            have O9 := ((hOr.trans hO7).trans hO8).trans hO9
            clear hR hO7 hO8 hO9 hOr
            rcases id hR9 with ⟨_, h0⟩ | ⟨q, cq, h0, hq1, hq2, hq3, hq4, hq5⟩
            · omega
            cases h0
            obtain ⟨y1, hy1⟩ := hq5 (kk * 2 + 1) (by omega)
            obtain ⟨y0, hy0⟩ := hq5 (kk * 2) (by omega)
            clear hq5
            have hR10 : Hid (IRow (w9.setCell ⟨q, kk * 2 + 1, none⟩ (.int .i64 v9)) w.heap.size 2 (.slice (some ⟨q, 0, none⟩) k cp) k) := hR9.set v9
            have O10 : Only g (g + 1) w (w9.setCell ⟨q, kk * 2 + 1, none⟩ (.int .i64 v9)) := O9.setNew (a := ⟨q, kk * 2 + 1, none⟩) (by show w.heap.size ≤ q; omega) _
            have hC10 : Cu (w9.setCell ⟨q, kk * 2 + 1, none⟩ (.int .i64 v9)) g _ := hC9.set (p := ⟨q, kk * 2 + 1, none⟩) (by show g < q; omega) _
            clear hR9 O9 hC9
            go_wp2_with fail
            refine (among_new g _ _ _ _ _ _ (by repeat (first | (with_reducible refine Cu.alloc ?_ _) | (with_reducible refine Cu.drewN ?_ _) | (with_reducible refine Cu.drew ?_) | (with_reducible assumption))) (by first | (with_reducible rfl) | simp) (by omega) (by rfl) (by decide) (by decide) (by simp [isI])).mono ?_
            rintro e w11 ⟨v11, rfl, hM11, hC11, hO11⟩
            have hz11 := hO11.size
            (try (simp at hz11))
            have hR11 := hR10.out.only hO11 (by omega)
            have O11 := O10.trans hO11
            clear hR10 hC10 O10 hO11
            rcases id hR11 with ⟨_, h0⟩ | ⟨q2, cq2, h0, gq1, gq2, gq3, gq4, gq5⟩
            · omega
            cases h0
            obtain ⟨z0, hz0⟩ := gq5 (kk * 2) (by omega)
            clear gq5
            go_wp2_with fail
            go_ret
            exact ⟨_, rfl, k, hR11.set v11, by omega, (hC11.set (p := ⟨q, kk * 2, none⟩) (by show g < q; omega) _).more (by omega), O11.setNew (a := ⟨q, kk * 2, none⟩) (by show w.heap.size ≤ q; omega) _⟩
        · go_wp2_with fail
          go_ret
          exact ⟨_, rfl, k, hR, by omega, hCr.more (by omega), hOr⟩

end Go.Proofs.Ytnfhgnibjebmlaa

/-
  Walks: the functions on cylinders that take numbers and cylinders alone.-/
namespace Go.Proofs.Ytnfhgnibjebmlaa
set_option linter.unusedVariables false
set_option linter.unusedSimpArgs false
open Go.RowKit

set_option maxHeartbeats 400000 in
theorem cyBar_any (n : Int) (w : World) :
    Calls Try.prog 86 #[.int .i64 n] w fun e w' => e = .returned (.bool (inB n 0 330)) ∧ w = w' := by
  go_enter Try.func86, Try.ntmps86
  go_wp2_with (go_at_call 71; refine (l1In_any _ _ _ _).mono ?_; rintro e w' ⟨rfl, rfl⟩)
  go_ret
  exact ⟨rfl, rfl⟩
set_option maxHeartbeats 400000 in
theorem cyVolume_any (n : Int) (w : World) :
    Calls Try.prog 70 #[.int .i64 n] w fun e w' => e = .returned (.bool (inB n 10 3000)) ∧ w = w' := by
  go_enter Try.func70, Try.ntmps70
  go_wp2_with (go_at_call 71; refine (l1In_any _ _ _ _).mono ?_; rintro e w' ⟨rfl, rfl⟩)
  go_ret
  exact ⟨rfl, rfl⟩
set_option maxHeartbeats 400000 in
theorem isRate_any (n : Int) (w : World) :
    Calls Try.prog 95 #[.int .i64 n] w fun e w' => e = .returned (.bool (inB n 1 200)) ∧ w = w' := by
  go_enter Try.func95, Try.ntmps95
  go_wp2_with (go_at_call 49; refine (inside_any _ _ _ _).mono ?_; rintro e w' ⟨rfl, rfl⟩)
  go_ret
  exact ⟨rfl, rfl⟩
set_option maxHeartbeats 400000 in
theorem cyMinutes_any (n : Int) (w : World) :
    Calls Try.prog 85 #[.int .i64 n] w fun e w' => e = .returned (.bool (inB n 0 600)) ∧ w = w' := by
  go_enter Try.func85, Try.ntmps85
  go_wp2_with (go_at_call 71; refine (l1In_any _ _ _ _).mono ?_; rintro e w' ⟨rfl, rfl⟩)
  go_ret
  exact ⟨rfl, rfl⟩

theorem lit_walk {v b : Int} (hv : 10 ≤ v) (hv' : v ≤ 3000) (h0 : 0 ≤ b) (h1 : b ≤ 330) : (200 < b → 0 ≤ v * (200 + 9 * (b - 200) / 10) ∧ v * (200 + 9 * (b - 200) / 10) ≤ 951000) ∧ (b ≤ 200 → 0 ≤ v * b ∧ v * b ≤ 951000) := by
  have he := eff_bd h0 h1
  have hm := mul_bd (by omega) hv' he.1 he.2
  unfold eff at hm
  split at hm
  · exact ⟨fun _ => hm, fun h => by omega⟩
  · exact ⟨fun h => by omega, fun _ => hm⟩

set_option maxHeartbeats 400000 in
theorem litresAt_any (v b : Int) (w : World) (hv : 10 ≤ v) (hv' : v ≤ 3000) (h0 : 0 ≤ b) (h1 : b ≤ 330) :
    Calls Try.prog 93 #[.int .i64 v, .int .i64 b] w fun e w' => e = .returned (.int .i64 (lit v b)) ∧ w = w' := by
  obtain ⟨m1, m2⟩ := lit_walk hv hv' h0 h1
  by_cases h : 200 < b
  · obtain ⟨m3, m4⟩ := m1 h
    clear m1 m2
    go_enter Try.func93, Try.ntmps93
    go_wp2
    go_ret
    exact ⟨ret_int (by simp [lit, eff, h]), rfl⟩
  · obtain ⟨m3, m4⟩ := m2 (by omega)
    clear m1 m2
    go_enter Try.func93, Try.ntmps93
    go_wp2
    go_ret
    exact ⟨ret_int (by simp [lit, eff]; rw [if_neg (by omega)]), rfl⟩
set_option maxHeartbeats 400000 in
theorem cyLitres_any (v b : Int) (w : World) (hv : 10 ≤ v) (hv' : v ≤ 3000) (h0 : 0 ≤ b) (h1 : b ≤ 330) :
    Calls Try.prog 96 #[.int .i64 v, .int .i64 b] w fun e w' => e = .returned (.int .i64 (lit v b)) ∧ w = w' := by
  obtain ⟨m1, m2⟩ := lit_walk hv hv' h0 h1
  by_cases h : 200 < b
  · obtain ⟨m3, m4⟩ := m1 h
    clear m1 m2
    go_enter Try.func96, Try.ntmps96
    go_wp2
    go_ret
    exact ⟨ret_int (by simp [lit, eff, h]), rfl⟩
  · obtain ⟨m3, m4⟩ := m2 (by omega)
    clear m1 m2
    go_enter Try.func96, Try.ntmps96
    go_wp2
    go_ret
    exact ⟨ret_int (by simp [lit, eff]; rw [if_neg (by omega)]), rfl⟩

/-! ### barAfter -/
set_option maxHeartbeats 400000 in
theorem barAfter_no (v b u : Int) (w : World) (hv : 10 ≤ v) (hv' : v ≤ 3000) (h0 : 0 ≤ b) (h1 : b ≤ 330) (hu' : u ≤ 100000000) (h : lit v b < u) :
    Calls Try.prog 87 #[.agg #[.int .i64 v, .int .i64 b], .int .i64 u] w fun e w' => e = .returned (.tuple #[.int .i64 0, .bool false]) ∧ Below w.heap.size w w' := by
  have hl := lit_bd (v := v) (by omega) hv' h0 h1
  have hd : decide (lit v b - u < 0) = true := by simp; omega
  go_enter Try.func87, Try.ntmps87
  go_wp2_with (go_at_call 93; refine (litresAt_any _ _ _ hv hv' (by omega) (by omega)).mono ?_; rintro e w' ⟨rfl, rfl⟩)
  go_ret2
  exact ⟨rfl, (Below.refl _ _).alloc (Nat.le_refl _) _⟩
set_option maxHeartbeats 400000 in
theorem barAfter_yes (v b u : Int) (w : World) (hv : 10 ≤ v) (hv' : v ≤ 3000) (h0 : 0 ≤ b) (h1 : b ≤ 330) (hu : 0 ≤ u) (h : u ≤ lit v b) :
    Calls Try.prog 87 #[.agg #[.int .i64 v, .int .i64 b], .int .i64 u] w fun e w' => e = .returned (.tuple #[.int .i64 (down v (lit v b - u) b.toNat : Nat), .bool true]) ∧ Below w.heap.size w w' := by
  have hl := lit_bd (v := v) (by omega) hv' h0 h1
  have hd : decide (lit v b - u < 0) = false := by simp; omega
  go_enter Try.func87, Try.ntmps87
  go_wp2_with (go_at_call 93; refine (litresAt_any _ _ _ hv hv' (by omega) (by omega)).mono ?_; rintro e w' ⟨rfl, rfl⟩)
  go_loop [7] (fun i => ∃ k : Nat, (k : Int) ≤ b ∧ i = .int .i64 k ∧ Hid (∀ j : Nat, k < j → j ≤ b.toNat → lit v b - u < lit v (j : Nat))) (fun i => (intOf i).toNat)
  case atStart => exact ⟨b.toNat, by omega, by rw [Int.toNat_of_nonneg h0], fun j a1 a2 => by omega⟩
  case round =>
    obtain ⟨k, hk, rfl, hj⟩ := hrel
    by_cases hc : lit v b - u < lit v (k : Int)
    · have hk0 : 0 < k := by
        rcases Nat.eq_zero_or_pos k with rfl | hp
        · have := lit_zero v; simp at hc; omega
        · exact hp
      have hc' : decide (lit v b - u < lit v (k : Int)) = true := by simpa using hc
      go_wp2_with (go_at_call 93; refine (litresAt_any _ _ _ hv hv' (by omega) (by omega)).mono ?_; rintro e w' ⟨rfl, rfl⟩)
      go_round
      case rel => exact ⟨k - 1, by omega, by go_num, fun j a1 a2 => by
        rcases Nat.lt_or_ge k j with h | h
        · exact hj.out j h a2
        · obtain rfl : j = k := by omega
          exact hc⟩
      case measure => simp [intOf]; omega
    · have hc' : decide (lit v b - u < lit v (k : Int)) = false := by simpa using hc
      go_wp2_with (go_at_call 93; refine (litresAt_any _ _ _ hv hv' (by omega) (by omega)).mono ?_; rintro e w' ⟨rfl, rfl⟩)
      go_ret2
      exact ⟨ret_ib (by rw [down_step (m := k) (by omega) hj.out (.inr (by omega))]) rfl, (Below.refl _ _).alloc (Nat.le_refl _) _⟩
theorem barAfter_any (v b u : Int) (w : World) (hv : 10 ≤ v) (hv' : v ≤ 3000) (h0 : 0 ≤ b) (h1 : b ≤ 330) (hu : 0 ≤ u) (hu' : u ≤ 100000000) :
    Calls Try.prog 87 #[.agg #[.int .i64 v, .int .i64 b], .int .i64 u] w fun e w' => e = .returned (.tuple #[.int .i64 (aftN v b u), .bool (aftOk v b u)]) ∧ Below w.heap.size w w' := by
  by_cases h : u ≤ lit v b
  · refine (barAfter_yes v b u w hv hv' h0 h1 hu h).mono fun e w' ⟨he, hb⟩ => ⟨?_, hb⟩
    rw [he, aftN, if_pos h, aftOk, decide_eq_true h]
  · refine (barAfter_no v b u w hv hv' h0 h1 hu' (by omega)).mono fun e w' ⟨he, hb⟩ => ⟨?_, hb⟩
    rw [he, aftN, if_neg h, aftOk, decide_eq_false h]

/-! ### cyFor, cyAfter -/
set_option maxHeartbeats 400000 in
theorem cyFor_any (v l : Int) (w : World) (hv : 10 ≤ v) (hv' : v ≤ 3000) (hl : 0 ≤ l) (hl' : l ≤ 100000000) :
    Calls Try.prog 97 #[.int .i64 v, .int .i64 l] w fun e w' => e = .returned (.int .i64 (down v l 330 : Nat)) ∧ w = w' := by
  go_enter Try.func97, Try.ntmps97
  go_wp2_with fail
  go_loop [5] (fun i => ∃ k : Nat, k ≤ 330 ∧ i = .int .i64 k ∧ Hid (∀ j : Nat, k < j → j ≤ 330 → l < lit v (j : Nat))) (fun i => (intOf i).toNat)
  case atStart => exact ⟨330, by omega, rfl, fun j a1 a2 => by omega⟩
  case round =>
    obtain ⟨k, hk, rfl, hj⟩ := hrel
    by_cases hc : l < lit v (k : Int)
    · have hk0 : 0 < k := by
        rcases Nat.eq_zero_or_pos k with rfl | hp
        · have := lit_zero v; simp at hc; omega
        · exact hp
      have hc' : decide (l < lit v (k : Int)) = true := by simpa using hc
      go_wp2_with (go_at_call 96; refine (cyLitres_any _ _ _ hv hv' (by omega) (by omega)).mono ?_; rintro e w' ⟨rfl, rfl⟩)
      go_round
      case rel => exact ⟨k - 1, by omega, by go_num, fun j a1 a2 => by
        rcases Nat.lt_or_ge k j with h | h
        · exact hj.out j h a2
        · obtain rfl : j = k := by omega
          exact hc⟩
      case measure => simp [intOf]; omega
    · have hc' : decide (l < lit v (k : Int)) = false := by simpa using hc
      go_wp2_with (go_at_call 96; refine (cyLitres_any _ _ _ hv hv' (by omega) (by omega)).mono ?_; rintro e w' ⟨rfl, rfl⟩)
      go_ret
      exact ⟨ret_int (by rw [down_step (m := k) (by omega) hj.out (.inr (by omega))]), rfl⟩
theorem down_min' {v b left : Int} (hv : 0 ≤ v) (h0 : 0 ≤ left) (hb : 0 ≤ b) (hb' : b ≤ 330) : min b ((down v left 330 : Nat) : Int) = (down v left b.toNat : Nat) := by
  have := down_min (v := v) hv h0 (n := b.toNat) (N := 330) (by omega)
  omega
set_option maxHeartbeats 400000 in
theorem cyAfter_any (v b r m : Int) (w : World) (hv : 10 ≤ v) (hv' : v ≤ 3000) (h0 : 0 ≤ b) (h1 : b ≤ 330) (hr : 0 ≤ r) (hr' : r ≤ 200) (hm : 0 ≤ m) (hm' : m ≤ 10000) :
    Calls Try.prog 89 #[.agg #[.int .i64 v, .int .i64 b], .int .i64 r, .int .i64 m] w fun e w' => e = .returned (.tuple #[.int .i64 (aftN v b (r * m)), .bool (aftOk v b (r * m))]) ∧ Below w.heap.size w w' := by
  have hl := lit_bd (v := v) (by omega) hv' h0 h1
  have hrm : 0 ≤ r * m ∧ r * m ≤ 2000000 := ⟨Int.mul_nonneg hr hm, by
    have h1 := Int.mul_le_mul_of_nonneg_left hm' hr
    have h2 := Int.mul_le_mul_of_nonneg_right hr' (show (0 : Int) ≤ 10000 by omega)
    omega⟩
  by_cases h : r * m ≤ lit v b
  · have hd : decide (lit v b - r * m < 0) = false := by simp; omega
    go_enter Try.func89, Try.ntmps89
    go_wp2_with (first | (go_at_call 96; refine (cyLitres_any _ _ _ hv hv' (by omega) (by omega)).mono ?_; rintro e w' ⟨rfl, rfl⟩))
    go_quiet ((first | (go_at_call 97; exact quiet_left (cyFor_any _ _ _ hv hv' (by omega) (by omega))) | (go_at_call 90; exact quiet_left (l1Least_any _ _ _))))
    go_wp2
    go_ret2
    exact ⟨ret_ib (by rw [aftN, if_pos h]; exact down_min' (by omega) (by omega) h0 h1) (by rw [aftOk, decide_eq_true h]), below_drewN ((Below.refl _ _).alloc (Nat.le_refl _) _) _⟩
  · have hd : decide (lit v b - r * m < 0) = true := by simp; omega
    go_enter Try.func89, Try.ntmps89
    go_wp2_with (first | (go_at_call 96; refine (cyLitres_any _ _ _ hv hv' (by omega) (by omega)).mono ?_; rintro e w' ⟨rfl, rfl⟩))
    go_ret2
    exact ⟨ret_ib (by rw [aftN, if_neg (by omega)]) (by rw [aftOk, decide_eq_false (by omega)]), (Below.refl _ _).alloc (Nat.le_refl _) _⟩
set_option maxHeartbeats 800000 in
theorem cyTime_any (v b r f bar : Int) (w : World) (hv : 10 ≤ v) (hv' : v ≤ 3000) (h0 : 0 ≤ b) (h1 : b ≤ 330) (hr : 0 ≤ r) (hr' : r ≤ 200) (hf : 0 ≤ f) (hf' : f ≤ 1000) :
    Calls Try.prog 79 #[.agg #[.int .i64 v, .int .i64 b], .int .i64 r, .int .i64 f, .int .i64 bar] w fun e w' => e = .returned (.int .i64 (timeF v b r f bar)) ∧ Below w.heap.size w w' := by
  go_enter Try.func79, Try.ntmps79
  go_wp2_with fail
  go_loopw [9, 10] (fun bst n wr => ∃ k : Nat, k ≤ 601 ∧ n = .int .i64 k ∧ bst = .int .i64 ((k : Int) - 1) ∧ Hid (∀ j, j < k → okAt v b r f bar j = true) ∧ Below (w.heap.size + 1) (w.alloc (.cells #[.int .i64 v, .int .i64 b] 85)) wr) (fun _ n _ => 601 - (intOf n).toNat)
  case atStart => exact ⟨0, by omega, by go_num, by go_num, fun j hj => by omega, Below.refl _ _⟩
  case round =>
    obtain ⟨k, hk, rfl, rfl, hj, hb⟩ := hrel
    have c0 := box_cell hb (by omega) 0 (v := .int .i64 v) rfl
    have c1 := box_cell hb (by omega) 1 (v := .int .i64 b) rfl
    by_cases hk6 : k ≤ 600
    · by_cases hg : okAt v b r f bar k = true
      · have hg1 : aftOk v b (r * (f + k)) = true := by simp [okAt] at hg; exact hg.1
        have hg2 : decide (aftN v b (r * (f + k)) < bar) = false := by simp [okAt] at hg; simp; omega
        go_wp2_with (go_at_call 89; refine (cyAfter_any _ _ _ _ _ hv hv' h0 h1 hr hr' (by omega) (by omega)).mono ?_; rintro e w1 ⟨rfl, hb1⟩)
        go_roundw
        case rel => exact ⟨k + 1, by omega, by go_num, by go_num, fun j a => by
          rcases Nat.lt_or_ge j k with h | h
          · exact hj.out j h
          · obtain rfl : j = k := by omega
            exact hg, hb.trans (hb1.mono (by have := hb.size; simp at this; omega))⟩
        case measure => simp [intOf]; omega
      · have hg' : okAt v b r f bar k = false := by simpa using hg
        by_cases hg1 : aftOk v b (r * (f + k)) = true
        · have hg2 : decide (aftN v b (r * (f + k)) < bar) = true := by simp [okAt, hg1] at hg'; simp; omega
          go_wp2_with (go_at_call 89; refine (cyAfter_any _ _ _ _ _ hv hv' h0 h1 hr hr' (by omega) (by omega)).mono ?_; rintro e w1 ⟨rfl, hb1⟩)
          go_ret
          exact ⟨ret_int (timeF_of (by omega) hj.out (.inr hg')).symm, ((((Below.refl _ _).alloc (Nat.le_refl _) _).trans (hb.mono (by omega))).trans (hb1.mono (by have := hb.size; simp at this; omega)))⟩
        · have hg3 : aftOk v b (r * (f + k)) = false := by simpa using hg1
          go_wp2_with (go_at_call 89; refine (cyAfter_any _ _ _ _ _ hv hv' h0 h1 hr hr' (by omega) (by omega)).mono ?_; rintro e w1 ⟨rfl, hb1⟩)
          go_ret
          exact ⟨ret_int (timeF_of (by omega) hj.out (.inr hg')).symm, ((((Below.refl _ _).alloc (Nat.le_refl _) _).trans (hb.mono (by omega))).trans (hb1.mono (by have := hb.size; simp at this; omega)))⟩
    · go_wp2_with fail
      go_ret
      exact ⟨ret_int (timeF_of hk hj.out (.inl (by omega))).symm, (((Below.refl _ _).alloc (Nat.le_refl _) _).trans (hb.mono (by omega)))⟩

end Go.Proofs.Ytnfhgnibjebmlaa

/-
  Rows of the call's own, element by element; an append that tells where the row lies behind it.-/
namespace Go.Proofs.Ytnfhgnibjebmlaa
set_option linter.unusedVariables false
set_option linter.unusedSimpArgs false
open Go.RowKit

/-- The cells of the first k elements, in a row. -/
def rowL (c : Nat → Nat → Value) (sz : Nat) : Nat → List Value
  | 0 => []
  | k + 1 => rowL c sz k ++ (List.range sz).map (c k)
theorem rowL_len (c : Nat → Nat → Value) (sz : Nat) : ∀ k, (rowL c sz k).length = k * sz
  | 0 => by simp [rowL]
  | k + 1 => by simp [rowL, rowL_len c sz k, Nat.succ_mul]
theorem rowL_get (c : Nat → Nat → Value) (sz : Nat) : ∀ {k i j : Nat}, i < k → j < sz → (rowL c sz k)[i * sz + j]? = some (c i j)
  | k + 1, i, j, hi, hj => by
    have hl := rowL_len c sz k
    rcases Nat.lt_or_ge i k with h | h
    · have := lin_lt h hj
      rw [rowL, List.getElem?_append_left (by omega)]
      exact rowL_get c sz h hj
    · obtain rfl : i = k := by omega
      rw [rowL, List.getElem?_append_right (by omega), hl, Nat.add_sub_cancel_left, List.getElem?_map, List.getElem?_range hj]
      rfl
theorem rowL_congr {c c' : Nat → Nat → Value} {sz : Nat} : ∀ {k : Nat}, (∀ i j, i < k → j < sz → c i j = c' i j) → rowL c sz k = rowL c' sz k
  | 0, _ => rfl
  | k + 1, h => by
    rw [rowL, rowL, rowL_congr (fun i j hi hj => h i j (by omega) hj)]
    congr 1
    apply List.map_congr_left
    intro j hj
    exact h k j (by omega) (List.mem_range.1 hj)
theorem rowL_mem {c : Nat → Nat → Value} {sz k : Nat} {u : Value} (h : u ∈ rowL c sz k) : ∃ i j, i < k ∧ j < sz ∧ u = c i j := by
  induction k with
  | zero => simp [rowL] at h
  | succ k ih =>
    rw [rowL, List.mem_append] at h
    rcases h with h | h
    · obtain ⟨i, j, h1, h2, h3⟩ := ih h
      exact ⟨i, j, by omega, h2, h3⟩
    · obtain ⟨j, hj, rfl⟩ := List.mem_map.1 h
      exact ⟨k, j, by omega, List.mem_range.1 hj, rfl⟩
/-- Two rows behind each other. -/
theorem rowL_app (c d : Nat → Nat → Value) (sz n : Nat) : ∀ m, rowL c sz n ++ rowL d sz m = rowL (fun i j => if i < n then c i j else d (i - n) j) sz (n + m)
  | 0 => by
    rw [rowL, List.append_nil, Nat.add_zero]
    exact rowL_congr fun i j hi _ => by simp [hi]
  | m + 1 => by
    rw [rowL, ← List.append_assoc, rowL_app c d sz n m, show n + (m + 1) = n + m + 1 by omega, rowL]
    congr 1
    apply List.map_congr_left
    intro j _
    have : ¬ n + m < n := by omega
    simp [this]
section
variable {w w' : World} {lo hi E sz n k : Nat} {v : Value} {c : Nat → Nat → Value}
theorem own_row (h : w.ownsRow lo E sz v n (rowL c sz n)) : Own w lo w.heap.size E sz v n n c := ⟨_, h, fun g hg => (h.lt g hg).2, fun i j hi hj => rowL_get c sz hi hj⟩
theorem Own.row (h : Own w lo hi E sz v n n c) : w.ownsRow lo E sz v n (rowL c sz n) := by
  obtain ⟨xs, h1, h2, h3⟩ := h
  have : xs = rowL c sz n := by
    apply List.ext_getElem?
    intro o
    rcases Nat.lt_or_ge o (n * sz) with ho | ho
    · have hsz : 0 < sz := by
        rcases Nat.eq_zero_or_pos sz with h0 | h0
        · subst h0; omega
        · exact h0
      have a1 : o / sz < n := (Nat.div_lt_iff_lt_mul hsz).2 ho
      have a2 := Nat.mod_lt o hsz
      have e1 := h3 _ _ a1 a2
      have e2 := rowL_get c sz a1 a2
      rw [Nat.div_add_mod'] at e1 e2
      rw [e1, e2]
    · rw [List.getElem?_eq_none (by rw [h1.1]; omega), List.getElem?_eq_none (by rw [rowL_len]; omega)]
  rw [← this]
  exact h1
theorem Sl.news {blk off cap : Nat} (h : Sl w lo hi sz (.slice (some ⟨blk, off, none⟩) n cap) n c) : ∀ j u, (rowL c sz n)[j]? = some u → w.cell? ((⟨blk, off, none⟩ : Addr).add j) = some u := by
  intro o u hu
  obtain ⟨A, cap', he, _, hA⟩ := h
  injection he with e1 _ _
  subst e1
  have ho : o < n * sz := by
    have := (List.getElem?_eq_some_iff.1 hu).1
    rwa [rowL_len] at this
  have hsz : 0 < sz := by
    rcases Nat.eq_zero_or_pos sz with h0 | h0
    · subst h0; omega
    · exact h0
  have a1 : o / sz < n := (Nat.div_lt_iff_lt_mul hsz).2 ho
  have a2 := Nat.mod_lt o hsz
  obtain ⟨b, f, e, _, _, hc⟩ := hA (Nat.lt_of_le_of_lt (Nat.zero_le _) a1)
  injection e with e
  injection e with e1 e2
  subst e1 e2
  have e3 := rowL_get c sz a1 a2
  rw [Nat.div_add_mod'] at e3
  rw [hu] at e3
  have e4 := hc _ _ a1 a2
  rw [Nat.add_assoc, Nat.div_add_mod'] at e4
  rw [Addr.add_lit, e4, e3]
/-- Rows whose elements are of two types lie in two blocks. -/
theorem OwnL.apart {a b E' sz' n' K K' : Nat} {u : Value} {cc cc' : Nat → Value} (h : OwnL w a (a + 1) E sz v n K cc) (h' : OwnL w b (b + 1) E' sz' u n' K' cc') (hn : 0 < n) (hn' : 0 < n') (hE : E ≠ E') : a ≠ b := by
  rcases h with ⟨h0, _⟩ | ⟨g, cap, xs, rfl, h1, h2, h3, ⟨_, h4⟩, _⟩
  · omega
  rcases h' with ⟨h0, _⟩ | ⟨g', cap', xs', rfl, h1', h2', h3', ⟨_, h4'⟩, _⟩
  · omega
  obtain rfl : g = a := by omega
  obtain rfl : g' = b := by omega
  rcases h4 with ⟨h4, _⟩ | ⟨x, _, cur, he, _, hh, _⟩
  · cases h4
  rcases h4' with ⟨h4', _⟩ | ⟨x', _, cur', he', _, hh', _⟩
  · cases h4'
  injection he with e1 _ _
  injection e1 with e1
  injection e1 with e1
  injection he' with e2 _ _
  injection e2 with e2
  injection e2 with e2
  subst e1 e2
  intro e
  subst e
  rw [hh] at hh'
  injection hh' with hh'
  injection hh' with _ e3 _
  exact hE e3
end
/-- An append onto a row of the call's own: in its own block, or in a new one. -/
theorem wpList_append_two {P : Program} (w : World) {ops : Array Oper} {rest : List Oper} {o : Oper} {a : Act} {Q : Exit → Act → World → Prop} (hgd : o.guard = none) (s x : Operand) (t : TypeId)
    (ho : o.op = .call { callee := .builtin .append, args := #[s, x], argTypes := #[t, t] })
    (base : Nat) (e : TypeId) (i : TypeInfo) (z : Value) (size bytes : Nat) (ht : P.underlying t = some (.slice e)) (hi : P.info? e = some i) (hz : i.zero = some z)
    (hsize : i.size = size) (hby : i.bytes = bytes) (hzs : z.cells.size = size) (hsz : 0 < size)
    (v : Value) (n : Nat) (xs : List Value) (hs : a.eval s = v) (hown : w.ownsRow base e size v n xs)
    (ad : Addr) (m c : Nat) (news : List Value) (hx : a.eval x = .slice (some ad) m c) (hl : news.length = m * size) (hnews : ∀ j u, news[j]? = some u → w.cell? (ad.add j) = some u) (h1 : ∀ u ∈ news, u.oneCell' = true) (hm : 0 < m)
    (h63 : n + m ≤ maxLen) (hbytes : (n + m) * bytes ≤ 140737488355328)
    (h : ∀ v' w', ((v'.ownBlock = v.ownBlock ∧ w'.ownsRow base e size v' (n + m) (xs ++ news) ∧ w.grownBy w' v.ownBlock) ∨ (w'.ownsRow w.heap.size e size v' (n + m) (xs ++ news) ∧ w.grownBy w' none)) → wpList P ops Q rest (a.put o.dst v') w') : wpList P ops Q (o :: rest) a w := by
  rcases hown.2 with ⟨rfl, rfl⟩ | ⟨g, cap, cur, rfl, hbg, hg, hnc, hcm, hcs, htake⟩
  · refine wpList_append_grows w hgd s x t ho e i z size bytes ht hi hz hsize hby hzs hsz none 0 0 [] hs (fun _ => ⟨rfl, rfl⟩) (by simp) (fun b hb => by cases hb) ad m c news hx hl hnews h1 (by omega) h63 hbytes ?_
    intro v' w' r1 r2
    have hx0 : xs = [] := List.eq_nil_of_length_eq_zero (by simpa using hown.1)
    subst hx0
    exact h v' w' (.inr ⟨r1, r2⟩)
  · by_cases hroom : n + m ≤ cap
    · refine wpList_append_own_spare w hgd s x t ho base e i size ht hi hsize g n cap xs hs hown ad m c news hx hl hnews h1 hroom ?_
      intro w' r1 r2
      exact h _ w' (.inl ⟨rfl, r1, r2⟩)
    · refine wpList_append_grows w hgd s x t ho e i z size bytes ht hi hz hsize hby hzs hsz (some ⟨g, 0, none⟩) n cap xs hs (fun h => by cases h) hown.1 (fun b hb => by cases hb; exact hown.cells rfl) ad m c news hx hl hnews h1 (by omega) h63 hbytes ?_
      intro v' w' r1 r2
      exact h v' w' (.inr ⟨r1, r2⟩)

end Go.Proofs.Ytnfhgnibjebmlaa

/-
  Walks: drawn arguments of the laws on teams' cylinders.-/
namespace Go.Proofs.Ytnfhgnibjebmlaa
set_option linter.unusedVariables false
set_option linter.unusedSimpArgs false
open Go.RowKit

theorem IRow.mono {w : World} {lo lo' sz n : Nat} {v : Value} (h : IRow w lo sz v n) (hl : lo' ≤ lo) : IRow w lo' sz v n := by
  rcases h with h | ⟨q, cap, h0, h1, h2, h3⟩
  · exact .inl h
  · exact .inr ⟨q, cap, h0, h1, by omega, h3⟩

end Go.Proofs.Ytnfhgnibjebmlaa
