/-
  Texts of this proof, one behind the other (part 10).
-/
import Derived.Test.YtpckhpkbdanjoaaDoorQ9
import Derived.BigRegion
import Derived.Laws.StructEq
import Derived.Laws.IdiomStrings
/-
  Memory while a way with one hand at a wall is gone: the place, the turns, the way so far.-/
namespace Go.Proofs.YtpckhpkbdanjoaaDoor
set_option linter.unusedVariables false
set_option linter.unusedSimpArgs false
open Go.RowKit

theorem OwnL.heap_ {w : World} {g E sz n cap K : Nat} {cc : Nat → Value} (h : OwnL w g (g + 1) E sz (.slice (some ⟨g, 0, none⟩) n cap) n K cc) (hn : 0 < n) : ∃ cs, w.heap[g]? = some (.cells cs E (0, 0)) := by
  rcases h with ⟨h0, _⟩ | ⟨g', cap', xs, he, h1, h2, h3, ⟨_, h4⟩, _⟩
  · omega
  injection he with e1 _ _
  injection e1 with e1
  injection e1 with e1
  subst e1
  rcases h4 with ⟨h4, _⟩ | ⟨x, _, cur, he, _, hh, _⟩
  · cases h4
  injection he with e1 _ _
  injection e1 with e1
  injection e1 with e1
  subst e1
  exact ⟨cur, hh⟩
structure HMem (w0 w : World) (ab tb : Nat) (b : Bool) (p : Int × Int) (t : Nat) (v : Value) (R C : Nat → Int) : Prop where
  box : Bx2 w ab p.1 p.2
  tr : w.heap[tb]? = some (.cells #[.int .i64 (trn b 0 : Nat), .int .i64 (trn b 1 : Nat), .int .i64 (trn b 2 : Nat), .int .i64 (trn b 3 : Nat)] 3 (0, 0))
  row : w.ownsRow (ab + 1) 38 2 v (t + 1) (rowL (iiC R C) 2 (t + 1))
  al : w0.heap.size ≤ ab
  tl : ab < tb
  bel : Below w0.heap.size w0 w
section
variable {w0 w w' : World} {ab tb t : Nat} {b : Bool} {p : Int × Int} {v : Value} {R C : Nat → Int}
theorem HMem.tlt (h : HMem w0 w ab tb b p t v R C) : tb < w.heap.size := (Array.getElem?_eq_some_iff.1 h.tr).1
theorem HMem.below (h : HMem w0 w ab tb b p t v R C) (hb : Below w.heap.size w w') : HMem w0 w' ab tb b p t v R C :=
  ⟨h.box.below hb h.box.lt, (hb.block _ h.tlt).trans h.tr, row_below h.row hb (Nat.le_refl _), h.al, h.tl, h.bel.trans (hb.mono h.bel.size)⟩
theorem HMem.keep (h : HMem w0 w ab tb b p t v R C) (hk : ∀ k, k < w.heap.size → (k = ab ∨ k = tb ∨ v.ownBlock = some k) → w'.heap[k]? = w.heap[k]?) (hs : w.heap.size ≤ w'.heap.size) (hb : Below w0.heap.size w0 w') : HMem w0 w' ab tb b p t v R C :=
  ⟨h.box.keep (hk _ h.box.lt (.inl rfl)) (Nat.lt_of_lt_of_le h.box.lt hs), (hk _ h.tlt (.inr (.inl rfl))).trans h.tr, row_keep h.row fun g hg => hk g (h.row.lt g hg).2 (.inr (.inr hg)), h.al, h.tl, hb⟩
theorem HMem.turn (h : HMem w0 w ab tb b p t v R C) {j : Nat} (hj : j < 4) : w.cell? ⟨tb, j, none⟩ = some (.int .i64 (trn b j : Nat)) := by
  have h4 : j = 0 ∨ j = 1 ∨ j = 2 ∨ j = 3 := by omega
  rcases h4 with rfl | rfl | rfl | rfl <;> simp [World.cell?, h.tr]
theorem HMem.apart (h : HMem w0 w ab tb b p t v R C) {k : Nat} {o : Obj} (hb : w.heap[k]? = some o) (ho : ∀ cs m, o ≠ .cells cs 38 m) (ht : ∀ cs m, o ≠ .cells cs 3 m) (hab : k ≠ ab) : ∀ q, q < w.heap.size → (q = ab ∨ q = tb ∨ v.ownBlock = some q) → q ≠ k := by
  intro q _ hq e
  subst e
  rcases hq with h1 | h1 | h1
  · exact hab h1
  · rw [h1, h.tr] at hb
    exact ht _ _ (Option.some.inj hb).symm
  · exact row_apart h.row hb ho _ h1 rfl
/-- The place is moved. -/
theorem HMem.move (h : HMem w0 w ab tb b p t v R C) (x y : Int) : HMem w0 ((w.setCell ⟨ab, 0, none⟩ (.int .i64 x)).setCell ⟨ab, 1, none⟩ (.int .i64 y)) ab tb b (x, y) t v R C := by
  have hne : ∀ k, k ≠ ab → ((w.setCell ⟨ab, 0, none⟩ (.int .i64 x)).setCell ⟨ab, 1, none⟩ (.int .i64 y)).heap[k]? = w.heap[k]? := fun k hk => (Deep.blk_setCell_other _ _ _ _ hk).trans (Deep.blk_setCell_other _ _ _ _ hk)
  exact ⟨h.box.set x y, (hne _ (by have := h.tl; omega)).trans h.tr, row_keep h.row fun g hg => hne g (by have := (h.row.lt g hg).1; omega), h.al, h.tl, (h.bel.setCell h.al _).setCell h.al _⟩
/-- The way grows. -/
theorem HMem.more {w2 : World} (h : HMem w0 w ab tb b p t v R C) (o : Obj) {v' : Value} (hr : w2.ownsRow (ab + 1) 38 2 v' (t + 1 + 1) (rowL (iiC R C) 2 (t + 1 + 1))) (hg : (w.alloc o).grownBy w2 v.ownBlock) : HMem w0 w2 ab tb b p (t + 1) v' R C := by
  have hs : w.heap.size ≤ (w.alloc o).heap.size := by simp
  have hk : ∀ k, k < w.heap.size → v.ownBlock ≠ some k → w2.heap[k]? = w.heap[k]? := fun k h1 h2 => (hg.block k (Nat.lt_of_lt_of_le h1 hs) (fun e => h2 e.symm)).trans (Deep.blk_alloc_lt _ _ _ h1)
  refine ⟨h.box.keep (hk _ h.box.lt fun e => by have := (h.row.lt _ e).1; omega) (Nat.lt_of_lt_of_le h.box.lt (Nat.le_trans hs hg.size)), (hk _ h.tlt fun e => row_apart h.row h.tr (fun _ _ he => by cases he) _ e rfl).trans h.tr, hr, h.al, h.tl, ?_⟩
  exact (h.bel.alloc h.bel.size o).grown hg (Nat.le_trans h.bel.size hs) fun k hk => by have := (h.row.lt _ hk).1; have := h.al; omega
end
theorem bool_row (z : Value) : ∀ n, List.replicate n z = rowL (fun _ _ => z) 1 n
  | 0 => rfl
  | n + 1 => by
    rw [List.replicate_succ', bool_row z n, rowL]
    rfl
/-- The direction's number. -/
theorem hdI_rem (b : Bool) (l j : Nat) (hl : l < 4) (hj : j < 4) : IntKind.i64.wrap ((l : Int) + (trn b j : Int)) = (l : Int) + (trn b j : Int) ∧ ((l : Int) + (trn b j : Int)).tmod 4 = (hdI b l j : Int) := by
  have h := trn_lt b hj
  refine ⟨IntWalk.i64_in _ (by omega), ?_⟩
  rw [Int.tmod_eq_emod_of_nonneg (by omega), hdI]
  omega
theorem wf_small {x : Int} (h : -1000 ≤ x ∧ x ≤ 1000) : (Lit.int .i64 x).wf = true := WalkArith.wf_i64 (by omega)
def hwR (F : Nat → ByteArray) (n : Nat) (b : Bool) (a : Int × Int) (i : Nat) : Int := (hwP F n b a i).1
def hwC (F : Nat → ByteArray) (n : Nat) (b : Bool) (a : Int × Int) (i : Nat) : Int := (hwP F n b a i).2
/-- What is known of the steps made before, at a step. -/
def hwQ (F : Nat → ByteArray) (n : Nat) (b : Bool) (a : Int × Int) (t : Nat) (Q : Int → Int → Int → Bool) : Prop := ∀ (p : Int × Int) (d : Nat), opP F n p = true → d < 4 → Q p.1 p.2 d = hwD F n b a t (4 * ixF F p + d)
theorem hwQ_zero {F : Nat → ByteArray} {n : Nat} {b : Bool} {a : Int × Int} : hwQ F n b a 0 (fun _ _ _ => false) := fun _ _ _ _ => rfl
theorem hwQ_next {F : Nat → ByteArray} {n : Nat} {b : Bool} {a : Int × Int} {t d : Nat} {Q : Int → Int → Int → Bool} (h : hwQ F n b a t Q) (hp : opP F n (hwP F n b a t) = true) (hd : hwJ F n b a t = (d : Int)) (hd4 : d < 4) :
    hwQ F n b a (t + 1) (fun x y c => Q x y c || decide (x = (hwP F n b a t).1 ∧ y = (hwP F n b a t).2 ∧ c = (d : Int))) := by
  intro p e hp' he
  have hc : hwCd F n b a t = 4 * ixF F (hwP F n b a t) + d := by rw [hwCd, hd]; rfl
  show (Q p.1 p.2 (e : Int) || decide (p.1 = (hwP F n b a t).1 ∧ p.2 = (hwP F n b a t).2 ∧ (e : Int) = (d : Int))) = _
  rw [hwD, orP, ← h p e hp' he, hc]
  congr 1
  apply decide_eq_decide.2
  constructor
  · rintro ⟨h1, h2, h3⟩
    have : p = hwP F n b a t := Prod.ext h1 h2
    rw [this]
    omega
  · intro h1
    have h2 : ixF F p = ixF F (hwP F n b a t) := by omega
    have := ix_inj hp' hp h2
    rw [this]
    exact ⟨rfl, rfl, by omega⟩

end Go.Proofs.YtpckhpkbdanjoaaDoor

/-
  Walks: a number among numbers (the reference's), a cell among cells (the library's).-/
namespace Go.Proofs.YtpckhpkbdanjoaaDoor
set_option linter.unusedVariables false
set_option linter.unusedSimpArgs false
open Go.RowKit

def hasN (f : Nat → Int) (x : Int) (m : Nat) : Bool := decide (0 ≤ fstI (fun t => decide (f t = x)) m)
def hasC (p q : Nat → Int) (x y : Int) (m : Nat) : Bool := decide (0 ≤ fstI (fun t => decide (p t = x) && decide (q t = y)) m)
theorem some_iff {f : Nat → Bool} {m : Nat} : decide (0 ≤ fstI f m) = true ↔ ∃ t, t < m ∧ f t = true := by
  rw [decide_eq_true_eq]
  rcases fstI_cases f m with ⟨h1, h2⟩ | ⟨k, h1, h2, h3, _⟩
  · rw [h1]
    constructor
    · intro h; omega
    · rintro ⟨t, ht, h⟩
      rw [h2 t ht] at h
      cases h
  · rw [h2]
    exact ⟨fun _ => ⟨k, h1, h3⟩, fun _ => by omega⟩
theorem flt_has {P : Nat → Bool} : ∀ {N k : Nat}, k ∈ flt P N ↔ k < N ∧ P k = true
  | 0, k => by simp [flt]
  | N + 1, k => by
    rw [flt, List.mem_append, flt_has]
    by_cases h : P N = true
    · rw [if_pos h]
      simp only [List.mem_singleton]
      constructor
      · rintro (⟨h1, h2⟩ | rfl)
        · exact ⟨by omega, h2⟩
        · exact ⟨by omega, h⟩
      · rintro ⟨h1, h2⟩
        by_cases e : k = N
        · exact .inr e
        · exact .inl ⟨by omega, h2⟩
    · rw [if_neg h]
      simp only [List.not_mem_nil, or_false]
      constructor
      · rintro ⟨h1, h2⟩; exact ⟨by omega, h2⟩
      · rintro ⟨h1, h2⟩
        by_cases e : k = N
        · subst e; exact absurd h2 h
        · exact ⟨by omega, h2⟩
theorem flt_at {P : Nat → Bool} {N k : Nat} (hk : k < N) : (∃ t, t < (flt P N).length ∧ fltI P N t = k) ↔ P k = true := by
  constructor
  · rintro ⟨t, ht, e⟩
    have hm : (flt P N).getD t 0 ∈ flt P N := by
      simp only [List.getD]
      rw [List.getElem?_eq_getElem ht]
      exact List.getElem_mem ht
    have e2 : (flt P N).getD t 0 = k := by rw [fltI] at e; exact Int.ofNat_inj.1 e
    rw [e2] at hm
    exact (flt_has.1 hm).2
  · intro h
    obtain ⟨t, ht, e⟩ := List.getElem_of_mem (flt_has.2 ⟨hk, h⟩)
    refine ⟨t, ht, ?_⟩
    rw [fltI]
    simp only [List.getD]
    rw [List.getElem?_eq_getElem ht, e]
    rfl
theorem hasN_flt {P : Nat → Bool} {N k : Nat} (hk : k < N) : hasN (fltI P N) k (flt P N).length = P k := by
  rw [Bool.eq_iff_iff, hasN, some_iff, ← flt_at hk]
  simp only [decide_eq_true_eq]
theorem hasC_flt {W : Nat} {P : Nat → Bool} {N k : Nat} (hW : 0 < W) (hk : k < N) : hasC (rI W P N) (cI W P N) ((k : Int) / (W : Int)) ((k : Int) % (W : Int)) (flt P N).length = P k := by
  rw [Bool.eq_iff_iff, hasC, some_iff, ← flt_at hk]
  constructor
  · rintro ⟨t, ht, e⟩
    obtain ⟨e1, e2⟩ : rI W P N t = (k : Int) / (W : Int) ∧ cI W P N t = (k : Int) % (W : Int) := by simpa using e
    refine ⟨t, ht, ?_⟩
    have a := Int.mul_ediv_add_emod (fltI P N t) W
    have b := Int.mul_ediv_add_emod (k : Int) W
    rw [rI] at e1
    rw [cI] at e2
    rw [e1, e2] at a
    omega
  · rintro ⟨t, ht, e⟩
    refine ⟨t, ht, ?_⟩
    have h1 : rI W P N t = (k : Int) / (W : Int) := by rw [rI, e]
    have h2 : cI W P N t = (k : Int) % (W : Int) := by rw [cI, e]
    simp [h1, h2]
set_option maxRecDepth 100000 in
set_option maxHeartbeats 1600000 in
theorem l1Has_any (f : Nat → Int) (m : Nat) (x : Int) (lo hi : Nat) (v : Value) (w : World) (hv : Sl w lo hi 1 v m (iC f)) (hhi : hi ≤ w.heap.size) (hm : m ≤ 1048576) :
    Calls Tryd.prog 71 #[v, .int .i64 x] w fun e w' => e = .returned (.bool (hasN f x m)) ∧ w = w' := by
  obtain ⟨A, cap, rfl, hcap, hA⟩ := hv.open_
  clear hv
  go_enter Tryd.func71, Tryd.ntmps71
  go_wp2_with fail
  go_loopw [9] (fun i wr => ∃ k : Nat, k ≤ m ∧ i = .int .i64 k ∧ Hid (∀ j, j < k → decide (f j = x) = false) ∧ w = wr) (fun i _ => m - (intOf i).toNat)
  case atStart => exact ⟨0, by omega, rfl, fun j hj => by omega, rfl⟩
  case round =>
    obtain ⟨k, hk, rfl, hj, rfl⟩ := hrel
    by_cases hkn : k < m
    · obtain ⟨blk, off, rfl, h1, h2, h3⟩ := hA (by omega)
      have c0 : w.cell? ⟨blk, off + k, none⟩ = some (.int .i64 (f k)) := by
        have := h3 k 0 hkn (by omega)
        simpa [iC] using this
      have l0 : blk < w.heap.size := by omega
      clear h3 hA
      by_cases e : f k = x
      · have d0 : (f k == x) = true := by simp [e]
        have HG : Hid (hasN f x m = true) := by show _ = _; rw [hasN, fstI_at hkn hj.out (by simp [e])]; exact decide_eq_true (by omega)
        go_wp2_with fail
        go_ret
        exact ⟨ret_bool HG.out.symm, rfl⟩
      · have d0 : (f k == x) = false := by simp [e]
        have HN : Hid (∀ j, j < k + 1 → decide (f j = x) = false) := upto_snocF (p := fun j => decide (f j = x)) hj.out (decide_eq_false e)
        go_wp2_with fail
        go_roundw
        case rel => exact ⟨k + 1, by omega, by go_num, HN.out, trivial⟩
        case measure => simp [intOf]; omega
    · obtain rfl : k = m := by omega
      have HG : Hid (hasN f x k = false) := by show _ = _; rw [hasN, fstI_none hj.out]; rfl
      go_wp2_with fail
      go_ret
      exact ⟨ret_bool HG.out.symm, rfl⟩
set_option maxRecDepth 100000 in
set_option maxHeartbeats 1600000 in
theorem IndexCell_any (p q : Nat → Int) (m : Nat) (x y : Int) (lo hi : Nat) (v : Value) (w : World) (hv : Sl w lo hi 2 v m (iiC p q)) (hhi : hi ≤ w.heap.size) (hm : m ≤ 1048576) :
    Calls Tryd.prog 95 #[v, .agg #[.int .i64 x, .int .i64 y]] w fun e w' => e = .returned (.int .i64 (fstI (fun t => decide (p t = x) && decide (q t = y)) m)) ∧ Below w.heap.size w w' := by
  obtain ⟨A, cap, rfl, hcap, hA⟩ := hv.open_
  clear hv
  have B0 : Below w.heap.size w (w.alloc (.cells #[.int .i64 x, .int .i64 y] 38)) := (Below.refl _ _).alloc (Nat.le_refl _) _
  have N0 : (w.alloc (.cells #[.int .i64 x, .int .i64 y] 38)).cell? ⟨w.heap.size, 0, none⟩ = some (.int .i64 x) := World.cell?_alloc_new _ _ _ _
  have N1 : (w.alloc (.cells #[.int .i64 x, .int .i64 y] 38)).cell? ⟨w.heap.size, 1, none⟩ = some (.int .i64 y) := World.cell?_alloc_new _ _ _ _
  go_enter Tryd.func95, Tryd.ntmps95
  go_wp2_with fail
  go_loopw [8] (fun i wr => ∃ k : Nat, k ≤ m ∧ i = .int .i64 k ∧ Hid (∀ j, j < k → (decide (p j = x) && decide (q j = y)) = false) ∧ Hid (Below w.heap.size w wr) ∧ Hid (wr.cell? ⟨w.heap.size, 0, none⟩ = some (.int .i64 x) ∧ wr.cell? ⟨w.heap.size, 1, none⟩ = some (.int .i64 y) ∧ w.heap.size < wr.heap.size)) (fun i _ => m - (intOf i).toNat)
  case atStart => exact ⟨0, by omega, rfl, fun j hj => by omega, B0, ⟨N0, N1, by simp⟩⟩
  case round =>
    obtain ⟨k, hk, rfl, hj, HB, HX⟩ := hrel
    clear N0 N1 B0
    by_cases hkn : k < m
    · obtain ⟨blk, off, rfl, h1, h2, h3⟩ := (hA.below HB.out (by omega)) (by omega)
      have hz := HB.out.size
      have c0 : wr.cell? ⟨blk, off + k * 2, none⟩ = some (.int .i64 (p k)) := by simpa [iiC] using h3 k 0 hkn (by omega)
      have c1 : wr.cell? ⟨blk, off + k * 2 + 1, none⟩ = some (.int .i64 (q k)) := by simpa [iiC] using h3 k 1 hkn (by omega)
      obtain ⟨x0, x1, xl⟩ := HX.out
      have lb : blk < wr.heap.size := by omega
      clear h3 hA
      by_cases e1 : x = p k
      · by_cases e2 : y = q k
        · have HG : Hid (fstI (fun t => decide (p t = x) && decide (q t = y)) m = k) := fstI_at hkn hj.out (by simp [e1, e2])
          go_wp2_with fail
          (refine wp_region_below_lit (by kernel_rfl) (by kernel_rfl) ?_; (repeat (first | go_big_quiet_step (fail) | quiet_step (fail))); refine wpQuiet_nil ?_; intro w2 hb2; have hz2 := hb2.size; (try (simp at hz2)); obtain ⟨hcw2, hfw2⟩ := bcell hb2; (try (have hy2 : w.heap.size < w2.heap.size := by omega)); (try (have hyy2 : w.heap.size + 1 < w2.heap.size := by omega)))
          go_wp2_with fail
          go_ret
          exact ⟨ret_int HG.out.symm, HB.out.trans (hb2.mono hz)⟩
        · have e2' : ¬ q k = y := fun h => e2 h.symm
          have HN : Hid (∀ j, j < k + 1 → (decide (p j = x) && decide (q j = y)) = false) := upto_snocF (p := fun j => decide (p j = x) && decide (q j = y)) hj.out (by simp [e2'])
          go_wp2_with fail
          (refine wp_region_below_lit (by kernel_rfl) (by kernel_rfl) ?_; (repeat (first | go_big_quiet_step (fail) | quiet_step (fail))); refine wpQuiet_nil ?_; intro w2 hb2; have hz2 := hb2.size; (try (simp at hz2)); obtain ⟨hcw2, hfw2⟩ := bcell hb2; (try (have hy2 : w.heap.size < w2.heap.size := by omega)); (try (have hyy2 : w.heap.size + 1 < w2.heap.size := by omega)))
          have HB2 : Hid (Below w.heap.size w w2) := HB.out.trans (hb2.mono hz)
          have HX2 : Hid (w2.cell? ⟨w.heap.size, 0, none⟩ = some (.int .i64 x) ∧ w2.cell? ⟨w.heap.size, 1, none⟩ = some (.int .i64 y) ∧ w.heap.size < w2.heap.size) := ⟨(hb2.cell (p := ⟨w.heap.size, 0, none⟩) xl).trans x0, (hb2.cell (p := ⟨w.heap.size, 1, none⟩) xl).trans x1, by omega⟩
          clear x0 x1 c0 c1 hcw2 hfw2 hb2
          go_wp2_with fail
          go_roundw
          case rel => exact ⟨k + 1, by omega, by go_num, HN.out, HB2.out, HX2.out⟩
          case measure => simp [intOf]; omega
      · have e1' : ¬ p k = x := fun h => e1 h.symm
        have HN : Hid (∀ j, j < k + 1 → (decide (p j = x) && decide (q j = y)) = false) := upto_snocF (p := fun j => decide (p j = x) && decide (q j = y)) hj.out (by simp [e1'])
        go_wp2_with fail
        (refine wp_region_below_lit (by kernel_rfl) (by kernel_rfl) ?_; (repeat (first | go_big_quiet_step (fail) | quiet_step (fail))); refine wpQuiet_nil ?_; intro w2 hb2; have hz2 := hb2.size; (try (simp at hz2)); obtain ⟨hcw2, hfw2⟩ := bcell hb2; (try (have hy2 : w.heap.size < w2.heap.size := by omega)); (try (have hyy2 : w.heap.size + 1 < w2.heap.size := by omega)))
        have HB2 : Hid (Below w.heap.size w w2) := HB.out.trans (hb2.mono hz)
        have HX2 : Hid (w2.cell? ⟨w.heap.size, 0, none⟩ = some (.int .i64 x) ∧ w2.cell? ⟨w.heap.size, 1, none⟩ = some (.int .i64 y) ∧ w.heap.size < w2.heap.size) := ⟨(hb2.cell (p := ⟨w.heap.size, 0, none⟩) xl).trans x0, (hb2.cell (p := ⟨w.heap.size, 1, none⟩) xl).trans x1, by omega⟩
        clear x0 x1 c0 c1 hcw2 hfw2 hb2
        go_wp2_with fail
        go_roundw
        case rel => exact ⟨k + 1, by omega, by go_num, HN.out, HB2.out, HX2.out⟩
        case measure => simp [intOf]; omega
    · obtain rfl : k = m := by omega
      have HG : Hid (fstI (fun t => decide (p t = x) && decide (q t = y)) k = -1) := fstI_none hj.out
      go_wp2_with fail
      go_ret
      exact ⟨ret_int HG.out.symm, HB.out⟩
set_option maxHeartbeats 800000 in
theorem ContainsCell_any (p q : Nat → Int) (m : Nat) (x y : Int) (lo hi : Nat) (v : Value) (w : World) (hv : Sl w lo hi 2 v m (iiC p q)) (hhi : hi ≤ w.heap.size) (hm : m ≤ 1048576) :
    Calls Tryd.prog 69 #[v, .agg #[.int .i64 x, .int .i64 y]] w fun e w' => e = .returned (.bool (hasC p q x y m)) ∧ Below w.heap.size w w' := by
  obtain ⟨A, cap, rfl, hcap, _⟩ := id hv.open_
  go_enter Tryd.func69, Tryd.ntmps69
  go_wp2_with fail
  refine (IndexCell_any p q m x y lo hi _ _ (hv.below (B := w.heap.size) (by repeat (first | (with_reducible exact Below.refl _ _) | (with_reducible refine below_ov ?_ ?_) | (with_reducible refine Below.setCell ?_ ?_ _) | (with_reducible refine Below.alloc ?_ ?_ _) | (with_reducible refine Below.drew ?_) | (with_reducible refine below_drewN ?_ _) | (refine Below.trans ?_ (Below.mono ‹Below _ _ _› (by first | omega | (simp; done) | (simp; omega)))) | exact Below.refl _ _ | omega | (focus (simp; done)) | (focus (simp; omega)))) hhi) (by first | omega | (simp; done) | (simp; omega)) hm).mono ?_
  rintro e w2 ⟨rfl, hb2⟩
  have hz2 := hb2.size
  go_wp2_with fail
  go_ret
  exact ⟨ret_bool (by first | rfl | (simp [hasC, ge_iff_le])), (by repeat (first | (with_reducible exact Below.refl _ _) | (with_reducible refine below_ov ?_ ?_) | (with_reducible refine Below.setCell ?_ ?_ _) | (with_reducible refine Below.alloc ?_ ?_ _) | (with_reducible refine Below.drew ?_) | (with_reducible refine below_drewN ?_ _) | (refine Below.trans ?_ (Below.mono ‹Below _ _ _› (by first | omega | (simp; done) | (simp; omega)))) | exact Below.refl _ _ | omega | (focus (simp; done)) | (focus (simp; omega))))⟩

end Go.Proofs.YtpckhpkbdanjoaaDoor

/-
  Walks: the floor with the letters of the nearest starts: the program's.-/
namespace Go.Proofs.YtpckhpkbdanjoaaDoor
set_option linter.unusedVariables false
set_option linter.unusedSimpArgs false
open Go.RowKit

/-- Lists of numbers in a list, each in a block of its own. -/
structure ShAll (w : World) (base : Nat) (v : Value) (N k : Nat) (st : Nat → Nat → Int) (β cp : Nat → Nat) : Prop where
  row : w.ownsRow base 48 1 v k ((List.range k).map fun j => .slice (some ⟨β j, 0, none⟩) N (cp j))
  num : ∀ j, j < k → OwnL w (β j) (β j + 1) 3 1 (.slice (some ⟨β j, 0, none⟩) N (cp j)) N N (fun i => .int .i64 (st j i)) ∧ β j < w.heap.size
section
variable {w w' : World} {base N k : Nat} {v : Value} {st : Nat → Nat → Int} {β cp : Nat → Nat}
theorem ShAll.below (h : ShAll w base v N k st β cp) (hb : Below w.heap.size w w') : ShAll w' base v N k st β cp :=
  ⟨row_below h.row hb (Nat.le_refl _), fun j hj => ⟨(h.num j hj).1.keep1 (hb.block _ (h.num j hj).2), Nat.lt_of_lt_of_le (h.num j hj).2 hb.size⟩⟩
theorem ShAll.form (h : ShAll w base v N k st β cp) (hk : 0 < k) : ∃ G cap, v = .slice (some ⟨G, 0, none⟩) k cap ∧ G < w.heap.size ∧ k ≤ cap := by
  rcases h.row.2 with ⟨_, h0⟩ | ⟨g, cap, cur, rfl, _, hh, hc, _⟩
  · omega
  · exact ⟨g, cap, rfl, (Array.getElem?_eq_some_iff.1 hh).1, hc⟩
theorem ShAll.at_ {G cap : Nat} (h : ShAll w base (.slice (some ⟨G, 0, none⟩) k cap) N k st β cp) {j : Nat} (hj : j < k) : w.cell? ⟨G, j, none⟩ = some (.slice (some ⟨β j, 0, none⟩) N (cp j)) := by
  rw [h.row.cellAt j (by omega), List.getElem?_map, List.getElem?_range hj]
  rfl
theorem ShAll.cell (h : ShAll w base v N k st β cp) {i j : Nat} (hj : j < k) (hi : i < N) : w.cell? ⟨β j, i, none⟩ = some (.int .i64 (st j i)) :=
  ((h.num j hj).1.cell (by omega) (o := i) (by omega)).2.2 hi
theorem ShAll.snoc {w3 : World} {v' : Value} {g co : Nat} (h : ShAll w base v N k st β cp) (hN : 0 < N) (ho : OwnL w g (g + 1) 3 1 (.slice (some ⟨g, 0, none⟩) N co) N N (fun i => .int .i64 (st k i))) (hg : g < w.heap.size) (o : Obj)
    (hr : w3.ownsRow base 48 1 v' (k + 1) (((List.range k).map fun j => .slice (some ⟨β j, 0, none⟩) N (cp j)) ++ [.slice (some ⟨g, 0, none⟩) N co])) (hgr : (w.alloc o).grownBy w3 v.ownBlock) :
    ∃ β' cp', ShAll w3 base v' N (k + 1) st β' cp' := by
  have hkeep : ∀ b, b < w.heap.size → (∃ cs, w.heap[b]? = some (.cells cs 3 (0, 0))) → w3.heap[b]? = w.heap[b]? := fun b hb ⟨cs, hcs⟩ =>
    (hgr.block b (by simp; omega) (fun e => row_apart h.row hcs (fun _ _ he => by injection he with _ he _; exact absurd he (by decide)) _ e.symm rfl)).trans (Deep.blk_alloc_lt _ _ _ hb)
  have hsz : w.heap.size ≤ w3.heap.size := Nat.le_trans (by simp) hgr.size
  refine ⟨fun j => if j = k then g else β j, fun j => if j = k then co else cp j, ?_, fun j hj => ?_⟩
  · rw [List.range_succ, List.map_append]
    have e : (List.range k).map (fun j => Value.slice (some ⟨if j = k then g else β j, 0, none⟩) N (if j = k then co else cp j)) = (List.range k).map fun j => .slice (some ⟨β j, 0, none⟩) N (cp j) := by
      apply List.map_congr_left
      intro j hj
      have : j ≠ k := by have := List.mem_range.1 hj; omega
      simp [this]
    rw [e]
    simpa using hr
  · by_cases e : j = k
    · subst e
      simp only [if_true]
      exact ⟨ho.keep1 (hkeep g hg (ho.heap_ hN)), Nat.lt_of_lt_of_le hg hsz⟩
    · simp only [e, if_false]
      have h1 := h.num j (by omega)
      exact ⟨h1.1.keep1 (hkeep _ h1.2 (h1.1.heap_ hN)), Nat.lt_of_lt_of_le h1.2 hsz⟩
end
/-- The bytes of a row, while its first k are told. -/
def shC (F : Nat → ByteArray) (st : Nat → Nat → Int) (m r k j : Nat) : Int := if j < k then shB F st m r j else byteAt (F r) j
def Line (w : World) (lb W : Nat) (f : Nat → Int) : Prop := lb < w.heap.size ∧ ∀ j, j < W → w.cell? ⟨lb, j, none⟩ = some (.int .u8 (f j)) ∧ w.frozen? ⟨lb, j, none⟩ = false
theorem Line.set {w : World} {lb W k : Nat} {f : Nat → Int} (h : Line w lb W f) (hk : k < W) (x : Int) : Line (w.setCell ⟨lb, k, none⟩ (.int .u8 x)) lb W (fun j => if j = k then x else f j) := by
  refine ⟨by simp [World.setCell]; exact h.1, fun j hj => ⟨?_, by simp [go_sem, (h.2 j hj).2]⟩⟩
  by_cases e : j = k
  · subst e
    simp [go_sem, (h.2 j hj).1]
  · simp only [e, if_false]
    exact (World.cell?_setCell_other w ⟨lb, k, none⟩ ⟨lb, j, none⟩ _ (fun h => e (by cases h; rfl))).trans (h.2 j hj).1
theorem Line.congr {w : World} {lb W : Nat} {f g : Nat → Int} (h : Line w lb W f) (hf : ∀ j, j < W → f j = g j) : Line w lb W g := ⟨h.1, fun j hj => ⟨by rw [← hf j hj]; exact (h.2 j hj).1, (h.2 j hj).2⟩⟩
theorem Line.new (w : World) (s : ByteArray) (cap e : Nat) : Line (w.alloc (.cells (bytesRow s cap) e ((bytesRow s cap).size, (bytesRow s cap).size + 1))) w.heap.size s.size (fun j => byteAt s j) := by
  have hh := heap_alloc_new w (.cells (bytesRow s cap) e ((bytesRow s cap).size, (bytesRow s cap).size + 1))
  refine ⟨by simp, fun j hj => ⟨?_, ?_⟩⟩
  · have hd : j < s.data.size := hj
    show _ = some (Value.int .u8 (byteAt s j))
    simp only [World.cell?, hh, ← byteAt_eq hj]
    rw [bytesRow, Array.getElem?_append_left (by simpa using hd), Array.getElem?_map, Array.getElem?_eq_getElem hd]
    rfl
  · have hsz : s.size ≤ (bytesRow s cap).size := by
      have e : s.data.size = s.size := rfl
      simp [bytesRow, e]
    simp only [World.frozen?, hh]
    simp
    omega
theorem shC_all {F : Nat → ByteArray} {st : Nat → Nat → Int} {m r : Nat} : (List.range (F 0).size).map (shC F st m r (F 0).size) = shL F st m r (F 0).size := by
  apply List.map_congr_left
  intro j hj
  have := List.mem_range.1 hj
  simp [shC, this]
theorem shC_step {F : Nat → ByteArray} {st : Nat → Nat → Int} {m r k : Nat} (j : Nat) : shC F st m r (k + 1) j = if j = k then shB F st m r k else shC F st m r k j := by
  by_cases e : j = k
  · subst e
    simp [shC]
  · by_cases h : j < k
    · simp [shC, e, h, show j < k + 1 by omega]
    · simp [shC, e, h, show ¬ j < k + 1 by omega]

end Go.Proofs.YtpckhpkbdanjoaaDoor

/-
  Walks: the floor with the letters of the nearest starts: the program's helper.-/
namespace Go.Proofs.YtpckhpkbdanjoaaDoor
set_option linter.unusedVariables false
set_option linter.unusedSimpArgs false
open Go.RowKit

def shS (F : Nat → ByteArray) (n : Nat) (p q : Nat → Int) (j i : Nat) : Int := stF F n (p j, q j) i
def shRows (F : Nat → ByteArray) (st : Nat → Nat → Int) (m x : Nat) : List Value := (List.range x).map fun r => .string (shR F st m r)
theorem shRows_next (F : Nat → ByteArray) (st : Nat → Nat → Int) (m x : Nat) : shRows F st m (x + 1) = shRows F st m x ++ [.string (shR F st m x)] := by
  rw [shRows, shRows, List.range_succ, List.map_append]; rfl
theorem infoIntS : (Tryd.prog.info? 48).map (fun i => (i.zero, i.size, i.bytes)) = some (some (.slice none 0 0), 1, 24) := by kernel_rfl
theorem infoStrS : (Tryd.prog.info? 9).map (fun i => (i.zero, i.size, i.bytes)) = some (some (.string ⟨#[]⟩), 1, 16) := by kernel_rfl
set_option maxRecDepth 100000 in
set_option maxHeartbeats 6400000 in
theorem shareOut_any (F : Nat → ByteArray) (n : Nat) (p q : Nat → Int) (m lo hi lo2 hi2 : Nat) (v u : Value) (w : World) (hv : Sl w lo hi 1 v n (sC F)) (hhi : hi ≤ w.heap.size) (hu : Sl w lo2 hi2 2 u m (iiC p q)) (hhi2 : hi2 ≤ w.heap.size) (hg : flB F n = true) (hm1 : 1 ≤ m) (hm : m ≤ 8) (hop : ∀ t, t < m → opB F n (p t) (q t) = true) :
    Calls Tryd.prog 70 #[v, u] w fun e w' => ∃ v', e = .returned v' ∧ w'.ownsRow w.heap.size 9 1 v' n (shRows F (shS F n p q) m n) ∧ Below w.heap.size w w' := by
  obtain ⟨A, cap, rfl, hcap, hA⟩ := id hv.open_
  obtain ⟨A2, cap2, rfl, hcap2, hA2⟩ := id hu.open_
  obtain ⟨g1, g2, g3, g4, g5, g6⟩ := flB_facts hg
  obtain ⟨blk, off, rfl, h1, h2, h3⟩ := hA (by omega)
  obtain ⟨blk2, off2, rfl, k1, k2, k3⟩ := hA2 (by omega)
  have HC : Hid (∀ x, x < n → w.cell? ⟨blk, off + x, none⟩ = some (.string (F x))) := fun x hx => by
    have := h3 x 0 hx (by omega)
    simpa [sC] using this
  have HC2 : Hid (∀ t, t < m → w.cell? ⟨blk2, off2 + t * 2, none⟩ = some (.int .i64 (p t)) ∧ w.cell? ⟨blk2, off2 + t * 2 + 1, none⟩ = some (.int .i64 (q t))) := fun t ht =>
    ⟨by simpa [iiC] using k3 t 0 ht (by omega), by simpa [iiC] using k3 t 1 ht (by omega)⟩
  have l0 : blk < w.heap.size := by omega
  have l2 : blk2 < w.heap.size := by omega
  have har := fl_area hg
  obtain ⟨N, hN⟩ : ∃ N, N = n * (F 0).size := ⟨_, rfl⟩
  obtain ⟨W, hW⟩ : ∃ W, W = (F 0).size := ⟨_, rfl⟩
  obtain ⟨st, hst⟩ : ∃ st, st = shS F n p q := ⟨_, rfl⟩
  have HST := hide hst
  have HFS : Hid (∀ x, x < n → (F x).size = W) := fun x hx => by rw [g5 x hx, hW]
  have HN := hide hN
  have HW := hide hW
  rw [← hN] at har
  rw [← hW] at g3 g4
  rw [← hst]
  have HG := hide hg
  have HV := hide hv
  have HOP : Hid (∀ t, t < m → opB F n (p t) (q t) = true) := hop
  obtain ⟨ii, hii, iz0, iz1, iz2⟩ := info_parts infoIntS
  obtain ⟨is, his, js0, js1, js2⟩ := info_parts infoStrS
  clear hv hu hg hop hA hA2 h3 k3 g5 g6 hN hW hst
  go_enter Tryd.func70, Tryd.ntmps70
  go_wp2_with fail
  go_loopg [5, 19] (m + 1) (fun gn a b wr => ∃ t : Nat, t ≤ m ∧ m - t < gn ∧ b = .int .i64 t ∧ Hid (∃ β cp, ShAll wr w.heap.size a N t st β cp) ∧ Hid (Below w.heap.size w wr))
  case atStart => exact ⟨0, by omega, by omega, rfl, ⟨fun _ => 0, fun _ => 0, ⟨World.ownsRow_nil _ _ _ _, fun j hj => absurd hj (Nat.not_lt_zero _)⟩⟩, Below.refl _ _⟩
  case round =>
    obtain ⟨t, ht, hgt, rfl, HS, HB⟩ := hrel
    have hz := HB.out.size
    by_cases htm : t < m
    · obtain ⟨β, cp, S⟩ := HS.out
      have c0 : wr.cell? ⟨blk2, off2 + t * 2, none⟩ = some (.int .i64 (p t)) := (HB.out.cell (p := ⟨blk2, off2 + t * 2, none⟩) l2).trans (HC2.out t htm).1
      have c1 : wr.cell? ⟨blk2, off2 + t * 2 + 1, none⟩ = some (.int .i64 (q t)) := (HB.out.cell (p := ⟨blk2, off2 + t * 2 + 1, none⟩) l2).trans (HC2.out t htm).2
      have l3 : blk2 < wr.heap.size := by omega
      have HS1 := hide S
      clear S HS
      go_wp2_with fail
      refine (stepsFrom_any F n (p t) (q t) lo hi _ _ (HV.out.below (B := w.heap.size) (HB.out.alloc hz _) hhi) (by simp; omega) HG.out (HOP.out t htm)).mono ?_
      rintro e w2 ⟨g, rfl, ho, hg1, hg2, hb2⟩
      have hbr : Below wr.heap.size wr w2 := ((Below.refl wr.heap.size wr).alloc (Nat.le_refl _) _).trans (hb2.mono (by simp))
      have S2 := hide (HS1.out.below hbr)
      have HB2 : Hid (Below w.heap.size w w2) := HB.out.trans (hbr.mono hz)
      have ho' : OwnL w2 g (g + 1) 3 1 (.slice (some ⟨g, 0, none⟩) N N) N N (fun i => .int .i64 (st t i)) := by
        rw [HST.out, HN.out]
        exact ho
      have HO := hide ho'
      rw [← HN.out]
      clear c0 c1 hbr hb2 ho ho' HS1
      have hz2 := HB2.out.size
      go_wp2_with (at_builtin; refine wpList_append_own _ rfl _ _ 82 rfl w.heap.size 48 ii (.slice none 0 0) 1 24 Tryd.underlying82 hii iz0 iz1 iz2 rfl (by decide) _ _ _ rfl (S2.out.row.alloc _) ⟨w2.heap.size, 0, none⟩ 1 1 [.slice (some ⟨g, 0, none⟩) N N] rfl rfl ?_ ?_ ?_ ?_ ?_ ?_)
      · intro i u hu
        match i, hu with
        | 0, hu => simp at hu; subst hu; simp [go_sem, Addr.add]
      · intro u hu; simp at hu; subst hu; rfl
      · unfold maxLen; omega
      · omega
      · simp; omega
      intro v' w3 hown3 hg3 _
      have HB3 : Hid (Below w.heap.size w w3) := (HB2.out.alloc (by omega) _).grown hg3 (by simp; omega) (fun g hg => (S2.out.row.lt g hg).1)
      have HS3 : Hid (∃ β cp, ShAll w3 w.heap.size v' N (t + 1) st β cp) := S2.out.snoc (by omega) HO.out hg2 _ hown3 hg3
      clear hown3 hg3
      go_wp2_with fail
      go_roundg (m - t)
      case measure => omega
      case rel => exact ⟨t + 1, by omega, by omega, by go_num, HS3.out, HB3.out⟩
    · obtain rfl : t = m := by omega
      obtain ⟨β, cp, S⟩ := HS.out
      obtain ⟨G, capG, rfl, hGl, hGc⟩ := S.form (by omega)
      have HS1 := hide S
      clear S HS
      obtain ⟨wr0, ewr0⟩ : ∃ z : World, z = wr := ⟨_, rfl⟩
      subst ewr0
      go_wp2_with fail
      go_loopg [8, 32] (n + 1) (fun gn a b wq => ∃ x : Nat, x ≤ n ∧ n - x < gn ∧ b = .int .i64 x ∧ Hid (wq.ownsRow wr0.heap.size 9 1 a x (shRows F st t x)) ∧ Hid (Below wr0.heap.size wr0 wq))
      case atStart => exact ⟨0, by omega, by omega, rfl, World.ownsRow_nil _ _ _ _, Below.refl _ _⟩
      case round =>
        obtain ⟨x, hx, hgx, rfl, HR, HQ⟩ := hrel
        have hzq := HQ.out.size
        have HBq : Hid (Below w.heap.size w wr) := HB.out.trans (HQ.out.mono hz)
        by_cases hxn : x < n
        · have c0 : wr.cell? ⟨blk, off + x, none⟩ = some (.string (F x)) := (HBq.out.cell (p := ⟨blk, off + x, none⟩) l0).trans (HC.out x hxn)
          have l3 : blk < wr.heap.size := by omega
          obtain ⟨wq, ewq⟩ : ∃ z : World, z = wr := ⟨_, rfl⟩
          subst ewq
          have hcv := run_bytes_of_string wq 9 43 5 (F x) Tryd.underlying9 Tryd.underlying43 Tryd.underlying5
          obtain ⟨C, hC⟩ : ∃ C, C = grownCap wq (F x).size 0 5 := ⟨_, rfl⟩
          rw [← hC] at hcv
          obtain ⟨W1, hW1⟩ : ∃ W1, W1 = wq.drew.alloc (.cells (bytesRow (F x) C) 5 ((bytesRow (F x) C).size, (bytesRow (F x) C).size + 1)) := ⟨_, rfl⟩
          have HL1 : Hid (Line W1 wq.heap.size W (shC F st t x 0)) := by
            have h := Line.new wq.drew (F x) C 5
            rw [← hW1, HFS.out x hxn] at h
            exact h.congr fun j _ => by simp [shC]
          have HQ1 : Hid (Below wq.heap.size wq W1) := by show Below _ _ _; rw [hW1]; exact (Below.drew (Below.refl _ _)).alloc (Nat.le_refl _) _
          rw [← hW1, HFS.out x hxn] at hcv
          clear hC hW1
          go_wp2_with fail
          clear c0 hcv
          go_loopg [41] (W + 1) (fun gn b wc => ∃ y : Nat, y ≤ W ∧ W - y < gn ∧ b = .int .i64 y ∧ Hid (Line wc wq.heap.size W (shC F st t x y)) ∧ Hid (Below wq.heap.size wq wc))
          case atStart => exact ⟨0, by omega, by omega, rfl, HL1.out, HQ1.out⟩
          case round =>
            obtain ⟨y, hy, hgy, rfl, HL, HQ2⟩ := hrel
            have hz2 := HQ2.out.size
            have HBc : Hid (Below wr0.heap.size wr0 wr) := HQ.out.trans (HQ2.out.mono hzq)
            have llb := HL.out.1
            by_cases hyW : y < W
            · obtain ⟨wc, ewc⟩ : ∃ z : World, z = wr := ⟨_, rfl⟩
              subst ewc
              have S2 := hide (HS1.out.below HBc.out)
              have hxW : x * W + y < N := by
                have h1 : (x + 1) * W ≤ n * W := Nat.mul_le_mul_right _ (by omega)
                have h2 : (x + 1) * W = x * W + W := Nat.succ_mul _ _
                have h3 := HN.out
                have h4 := HW.out
                rw [h4] at h1 h2 ⊢
                omega
              obtain ⟨i, hi⟩ : ∃ i, i = x * W + y := ⟨_, rfl⟩
              rw [← hi] at hxW
              have z1 : IntKind.i64.wrap ((x : Int) * (W : Int)) = (x : Int) * (W : Int) := IntWalk.i64_in _ (by
                have e : (x : Int) * (W : Int) = ((x * W : Nat) : Int) := by push_cast; rfl
                rw [e]; omega)
              have z2 : IntKind.i64.wrap ((x : Int) * (W : Int) + (y : Int)) = (i : Int) := by
                have e : (x : Int) * (W : Int) + (y : Int) = (i : Int) := by rw [hi]; push_cast; rfl
                rw [e]; exact IntWalk.i64_in _ (by omega)
              have HIW : Hid (i = x * W + y) := hi
              have HBND : Hid (∀ j, j ≤ t → -1 ≤ shJ st i j ∧ shJ st i j < j) := fun j _ => shJ_bd st i j
              have hGl2 : G < wc.heap.size := by have := HBc.out.size; omega
              clear hi
              go_wp2_with fail
              go_loopg [13, 46] (t + 1) (fun gn bv jv wz => ∃ j : Nat, j ≤ t ∧ t - j < gn ∧ jv = .int .i64 j ∧ bv = .int .i64 (shJ st i j) ∧ wz = wc)
              case atStart => exact ⟨0, by omega, by omega, rfl, rfl, rfl⟩
              case round =>
                obtain ⟨j, hj, hgj, rfl, rfl, rfl⟩ := hrel
                obtain ⟨jb1, jb2⟩ := HBND.out j hj
                by_cases hjt : j < t
                · have a0 := S2.out.at_ hjt
                  have a1 := S2.out.cell hjt hxW
                  have a2 := (S2.out.num j hjt).2
                  have HN0 : Hid (shJ st i (j + 1) = if 0 ≤ st j i ∧ (shJ st i j < 0 ∨ st j i < st (shJ st i j).toNat i) then (j : Int) else shJ st i j) := rfl
                  obtain ⟨s1, hs1⟩ : ∃ z, z = st j i := ⟨_, rfl⟩
                  rw [← hs1] at a1 HN0
                  obtain ⟨J, hJ⟩ : ∃ z, z = shJ st i j := ⟨_, rfl⟩
                  rw [← hJ] at jb1 jb2 HN0
                  rw [← hJ]
                  clear hJ hs1
                  by_cases hs0 : 0 ≤ s1
                  · have d0 : decide (s1 ≥ 0) = true := decide_eq_true hs0
                    have d0' : decide (0 ≤ s1) = true := decide_eq_true hs0
                    by_cases hJ0 : J < 0
                    · have d1 : decide (J < 0) = true := decide_eq_true hJ0
                      have HN1 : Hid (shJ st i (j + 1) = (j : Int)) := by show _ = _; rw [HN0.out, if_pos ⟨hs0, .inl hJ0⟩]
                      go_wp2_with fail
                      go_roundg (t - j)
                      case measure => omega
                      case rel => exact ⟨j + 1, by omega, by omega, by go_num, by rw [HN1.out], rfl⟩
                    · have d1 : decide (J < 0) = false := decide_eq_false hJ0
                      obtain ⟨K, rfl⟩ : ∃ K : Nat, J = K := ⟨J.toNat, by omega⟩
                      have hKt : K < t := by omega
                      have b0 := S2.out.at_ hKt
                      have b1 := S2.out.cell hKt hxW
                      have b2 := (S2.out.num K hKt).2
                      have HN2 : Hid (shJ st i (j + 1) = if s1 < st K i then (j : Int) else (K : Int)) := by
                        show _ = _
                        rw [HN0.out]
                        by_cases h : s1 < st K i
                        · rw [if_pos ⟨hs0, .inr (by simpa using h)⟩, if_pos h]
                        · rw [if_neg (by rintro ⟨_, h1 | h1⟩; · exact hJ0 h1
                                         · exact h (by simpa using h1)), if_neg h]
                      obtain ⟨s2, hs2⟩ : ∃ z, z = st K i := ⟨_, rfl⟩
                      rw [← hs2] at b1 HN2
                      clear hs2
                      by_cases hlt : s1 < s2
                      · have d2 : decide (s1 < s2) = true := decide_eq_true hlt
                        have HN1 : Hid (shJ st i (j + 1) = (j : Int)) := by show _ = _; rw [HN2.out, if_pos hlt]
                        go_wp2_with fail
                        go_roundg (t - j)
                        case measure => omega
                        case rel => exact ⟨j + 1, by omega, by omega, by go_num, by rw [HN1.out], rfl⟩
                      · have d2 : decide (s1 < s2) = false := decide_eq_false hlt
                        have HN1 : Hid (shJ st i (j + 1) = (K : Int)) := by show _ = _; rw [HN2.out, if_neg hlt]
                        go_wp2_with fail
                        go_roundg (t - j)
                        case measure => omega
                        case rel => exact ⟨j + 1, by omega, by omega, by go_num, by rw [HN1.out], rfl⟩
                  · have d0 : decide (s1 ≥ 0) = false := decide_eq_false hs0
                    have d0' : decide (0 ≤ s1) = false := decide_eq_false hs0
                    have HN1 : Hid (shJ st i (j + 1) = J) := by show _ = _; rw [HN0.out, if_neg (fun h => hs0 h.1)]
                    go_wp2_with fail
                    go_roundg (t - j)
                    case measure => omega
                    case rel => exact ⟨j + 1, by omega, by omega, by go_num, by rw [HN1.out], rfl⟩
                · obtain rfl : j = t := by omega
                  have HSB : Hid (shB F st j x y = if shJ st i j < 0 then byteAt (F x) y else 97 + shJ st i j) := by show _ = _; rw [shB, ← HW.out, ← HIW.out]
                  obtain ⟨J, hJ⟩ : ∃ z, z = shJ st i j := ⟨_, rfl⟩
                  rw [← hJ] at jb1 jb2 HSB
                  rw [← hJ]
                  clear hJ
                  by_cases hJ0 : J < 0
                  · have d0 : decide (J ≥ 0) = false := decide_eq_false (by omega)
                    have d0' : decide (0 ≤ J) = false := decide_eq_false (by omega)
                    have HL2 : Hid (Line wr wq.heap.size W (shC F st j x (y + 1))) := HL.out.congr fun k hk => by
                      rw [shC_step]
                      by_cases e : k = y
                      · subst e
                        rw [if_pos rfl, HSB.out, if_pos hJ0]
                        simp [shC]
                      · rw [if_neg e]
                    go_wp2_with fail
                    go_roundg (W - y)
                    case measure => omega
                    case rel => exact ⟨y + 1, by omega, by omega, by go_num, HL2.out, HQ2.out⟩
                  · have d0 : decide (J ≥ 0) = true := decide_eq_true (by omega)
                    have d0' : decide (0 ≤ J) = true := decide_eq_true (by omega)
                    have y1 : IntKind.i64.wrap (97 + J) = 97 + J := IntWalk.i64_in _ (by omega)
                    have y2 : IntKind.u8.wrap (97 + J) = 97 + J := by rw [IntKind.wrap_u8]; omega
                    obtain ⟨e0, e1⟩ := HL.out.2 y hyW
                    have HL2 : Hid (Line (wr.setCell ⟨wq.heap.size, y, none⟩ (.int .u8 (97 + J))) wq.heap.size W (shC F st j x (y + 1))) := (HL.out.set hyW (97 + J)).congr fun k hk => by
                      rw [shC_step]
                      by_cases e : k = y
                      · rw [if_pos e, if_pos e, HSB.out, if_neg hJ0]
                      · rw [if_neg e, if_neg e]
                    have HQ3 : Hid (Below wq.heap.size wq (wr.setCell ⟨wq.heap.size, y, none⟩ (.int .u8 (97 + J)))) := HQ2.out.setCell (Nat.le_refl _) _
                    go_wp2_with fail
                    go_roundg (W - y)
                    case measure => omega
                    case rel => exact ⟨y + 1, by omega, by omega, by go_num, HL2.out, HQ3.out⟩
            · obtain rfl : y = W := by omega
              have hcv2 : (convert 43 9 (.slice (some ⟨wq.heap.size, 0, none⟩) y C)).run Tryd.prog wr = .ok (.string (shR F st t x)) wr := by
                have h := run_convert_bytes_arg (P := Tryd.prog) wr 43 5 Tryd.underlying43 Tryd.underlying5 wq.heap.size 0 y C (shL F st t x y) (shL_len _ _ _ _ _) (fun k hk => by
                  rw [Nat.zero_add, (HL.out.2 k hk).1]
                  simp [shC, shL, hk]) 9 Tryd.underlying9
                rw [h, shR, ← HW.out]
              have HR2 := hide (row_below HR.out HQ2.out (Nat.le_refl _))
              have hzq2 := HBc.out.size
              go_wp2_with (at_builtin; refine wpList_append_own _ rfl _ _ 22 rfl wr0.heap.size 9 is (.string ⟨#[]⟩) 1 16 Tryd.underlying22 his js0 js1 js2 rfl (by decide) _ _ _ rfl (HR2.out.alloc _) ⟨wr.heap.size, 0, none⟩ 1 1 [.string (shR F st t x)] rfl rfl ?_ ?_ ?_ ?_ ?_ ?_)
              · intro i u hu
                match i, hu with
                | 0, hu => simp at hu; subst hu; simp [go_sem, Addr.add]
              · intro u hu; simp at hu; subst hu; rfl
              · unfold maxLen; omega
              · omega
              · simp; omega
              intro v' w5 hown5 hg5 _
              have HB5 : Hid (Below wr0.heap.size wr0 w5) := (HBc.out.alloc hzq2 _).grown hg5 (by simp; omega) (fun g hg => (HR2.out.lt g hg).1)
              have HR5 : Hid (w5.ownsRow wr0.heap.size 9 1 v' (x + 1) (shRows F st t (x + 1))) := by
                show World.ownsRow _ _ _ _ _ _ _
                rw [shRows_next]
                exact hown5
              clear hown5 hg5
              go_wp2_with fail
              go_roundg (n - x)
              case measure => omega
              case rel => exact ⟨x + 1, by omega, by omega, by go_num, HR5.out, HB5.out⟩
        · obtain rfl : x = n := by omega
          go_wp2_with fail
          go_ret
          exact ⟨_, rfl, HR.out.mono hz, HBq.out⟩

end Go.Proofs.YtpckhpkbdanjoaaDoor
