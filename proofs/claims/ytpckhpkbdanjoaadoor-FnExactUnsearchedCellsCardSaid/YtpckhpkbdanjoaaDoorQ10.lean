/-
  Texts of this proof, one behind the other (part 10).
-/
import Derived.Test.YtpckhpkbdanjoaaDoorQ9
import Derived.Maps.OwnOps
import Derived.Maps.Views
import Derived.DeepKeys4
/-
  Memory while a way with one hand at a wall is gone: the place, the turns, the way so far.-/
namespace Go.Proofs.YtpckhpkbdanjoaaDoor
set_option linter.unusedVariables false
set_option linter.unusedSimpArgs false
open Go.RowKit

theorem OwnL.heap_ {w : World} {g E sz n cap K : Nat} {cc : Nat → Value} (h : OwnL w g (g + 1) E sz (.slice (some ⟨g, 0, none⟩) n cap) n K cc) (hn : 0 < n) : ∃ cs, w.heap[g]? = some (.cells cs E (0, 0)) := by
  rcases h with ⟨h0, _⟩ | ⟨g', cap', xs, he, h1, h2, h3, ⟨_, h4⟩, _⟩
  · omega
  injection he with e1 _ _
  injection e1 with e1
  injection e1 with e1
  subst e1
  rcases h4 with ⟨h4, _⟩ | ⟨x, _, cur, he, _, hh, _⟩
  · cases h4
  injection he with e1 _ _
  injection e1 with e1
  injection e1 with e1
  subst e1
  exact ⟨cur, hh⟩
structure HMem (w0 w : World) (ab tb : Nat) (b : Bool) (p : Int × Int) (t : Nat) (v : Value) (R C : Nat → Int) : Prop where
  box : Bx2 w ab p.1 p.2
  tr : w.heap[tb]? = some (.cells #[.int .i64 (trn b 0 : Nat), .int .i64 (trn b 1 : Nat), .int .i64 (trn b 2 : Nat), .int .i64 (trn b 3 : Nat)] 3 (0, 0))
  row : w.ownsRow (ab + 1) 38 2 v (t + 1) (rowL (iiC R C) 2 (t + 1))
  al : w0.heap.size ≤ ab
  tl : ab < tb
  bel : Below w0.heap.size w0 w
section
variable {w0 w w' : World} {ab tb t : Nat} {b : Bool} {p : Int × Int} {v : Value} {R C : Nat → Int}
theorem HMem.tlt (h : HMem w0 w ab tb b p t v R C) : tb < w.heap.size := (Array.getElem?_eq_some_iff.1 h.tr).1
theorem HMem.below (h : HMem w0 w ab tb b p t v R C) (hb : Below w.heap.size w w') : HMem w0 w' ab tb b p t v R C :=
  ⟨h.box.below hb h.box.lt, (hb.block _ h.tlt).trans h.tr, row_below h.row hb (Nat.le_refl _), h.al, h.tl, h.bel.trans (hb.mono h.bel.size)⟩
theorem HMem.keep (h : HMem w0 w ab tb b p t v R C) (hk : ∀ k, k < w.heap.size → (k = ab ∨ k = tb ∨ v.ownBlock = some k) → w'.heap[k]? = w.heap[k]?) (hs : w.heap.size ≤ w'.heap.size) (hb : Below w0.heap.size w0 w') : HMem w0 w' ab tb b p t v R C :=
  ⟨h.box.keep (hk _ h.box.lt (.inl rfl)) (Nat.lt_of_lt_of_le h.box.lt hs), (hk _ h.tlt (.inr (.inl rfl))).trans h.tr, row_keep h.row fun g hg => hk g (h.row.lt g hg).2 (.inr (.inr hg)), h.al, h.tl, hb⟩
theorem HMem.turn (h : HMem w0 w ab tb b p t v R C) {j : Nat} (hj : j < 4) : w.cell? ⟨tb, j, none⟩ = some (.int .i64 (trn b j : Nat)) := by
  have h4 : j = 0 ∨ j = 1 ∨ j = 2 ∨ j = 3 := by omega
  rcases h4 with rfl | rfl | rfl | rfl <;> simp [World.cell?, h.tr]
theorem HMem.apart (h : HMem w0 w ab tb b p t v R C) {k : Nat} {o : Obj} (hb : w.heap[k]? = some o) (ho : ∀ cs m, o ≠ .cells cs 38 m) (ht : ∀ cs m, o ≠ .cells cs 3 m) (hab : k ≠ ab) : ∀ q, q < w.heap.size → (q = ab ∨ q = tb ∨ v.ownBlock = some q) → q ≠ k := by
  intro q _ hq e
  subst e
  rcases hq with h1 | h1 | h1
  · exact hab h1
  · rw [h1, h.tr] at hb
    exact ht _ _ (Option.some.inj hb).symm
  · exact row_apart h.row hb ho _ h1 rfl
/-- The place is moved. -/
theorem HMem.move (h : HMem w0 w ab tb b p t v R C) (x y : Int) : HMem w0 ((w.setCell ⟨ab, 0, none⟩ (.int .i64 x)).setCell ⟨ab, 1, none⟩ (.int .i64 y)) ab tb b (x, y) t v R C := by
  have hne : ∀ k, k ≠ ab → ((w.setCell ⟨ab, 0, none⟩ (.int .i64 x)).setCell ⟨ab, 1, none⟩ (.int .i64 y)).heap[k]? = w.heap[k]? := fun k hk => (Deep.blk_setCell_other _ _ _ _ hk).trans (Deep.blk_setCell_other _ _ _ _ hk)
  exact ⟨h.box.set x y, (hne _ (by have := h.tl; omega)).trans h.tr, row_keep h.row fun g hg => hne g (by have := (h.row.lt g hg).1; omega), h.al, h.tl, (h.bel.setCell h.al _).setCell h.al _⟩
/-- The way grows. -/
theorem HMem.more {w2 : World} (h : HMem w0 w ab tb b p t v R C) (o : Obj) {v' : Value} (hr : w2.ownsRow (ab + 1) 38 2 v' (t + 1 + 1) (rowL (iiC R C) 2 (t + 1 + 1))) (hg : (w.alloc o).grownBy w2 v.ownBlock) : HMem w0 w2 ab tb b p (t + 1) v' R C := by
  have hs : w.heap.size ≤ (w.alloc o).heap.size := by simp
  have hk : ∀ k, k < w.heap.size → v.ownBlock ≠ some k → w2.heap[k]? = w.heap[k]? := fun k h1 h2 => (hg.block k (Nat.lt_of_lt_of_le h1 hs) (fun e => h2 e.symm)).trans (Deep.blk_alloc_lt _ _ _ h1)
  refine ⟨h.box.keep (hk _ h.box.lt fun e => by have := (h.row.lt _ e).1; omega) (Nat.lt_of_lt_of_le h.box.lt (Nat.le_trans hs hg.size)), (hk _ h.tlt fun e => row_apart h.row h.tr (fun _ _ he => by cases he) _ e rfl).trans h.tr, hr, h.al, h.tl, ?_⟩
  exact (h.bel.alloc h.bel.size o).grown hg (Nat.le_trans h.bel.size hs) fun k hk => by have := (h.row.lt _ hk).1; have := h.al; omega
end
theorem bool_row (z : Value) : ∀ n, List.replicate n z = rowL (fun _ _ => z) 1 n
  | 0 => rfl
  | n + 1 => by
    rw [List.replicate_succ', bool_row z n, rowL]
    rfl
/-- The direction's number. -/
theorem hdI_rem (b : Bool) (l j : Nat) (hl : l < 4) (hj : j < 4) : IntKind.i64.wrap ((l : Int) + (trn b j : Int)) = (l : Int) + (trn b j : Int) ∧ ((l : Int) + (trn b j : Int)).tmod 4 = (hdI b l j : Int) := by
  have h := trn_lt b hj
  refine ⟨IntWalk.i64_in _ (by omega), ?_⟩
  rw [Int.tmod_eq_emod_of_nonneg (by omega), hdI]
  omega
theorem wf_small {x : Int} (h : -1000 ≤ x ∧ x ≤ 1000) : (Lit.int .i64 x).wf = true := WalkArith.wf_i64 (by omega)
def hwR (F : Nat → ByteArray) (n : Nat) (b : Bool) (a : Int × Int) (i : Nat) : Int := (hwP F n b a i).1
def hwC (F : Nat → ByteArray) (n : Nat) (b : Bool) (a : Int × Int) (i : Nat) : Int := (hwP F n b a i).2
/-- What is known of the steps made before, at a step. -/
def hwQ (F : Nat → ByteArray) (n : Nat) (b : Bool) (a : Int × Int) (t : Nat) (Q : Int → Int → Int → Bool) : Prop := ∀ (p : Int × Int) (d : Nat), opP F n p = true → d < 4 → Q p.1 p.2 d = hwD F n b a t (4 * ixF F p + d)
theorem hwQ_zero {F : Nat → ByteArray} {n : Nat} {b : Bool} {a : Int × Int} : hwQ F n b a 0 (fun _ _ _ => false) := fun _ _ _ _ => rfl
theorem hwQ_next {F : Nat → ByteArray} {n : Nat} {b : Bool} {a : Int × Int} {t d : Nat} {Q : Int → Int → Int → Bool} (h : hwQ F n b a t Q) (hp : opP F n (hwP F n b a t) = true) (hd : hwJ F n b a t = (d : Int)) (hd4 : d < 4) :
    hwQ F n b a (t + 1) (fun x y c => Q x y c || decide (x = (hwP F n b a t).1 ∧ y = (hwP F n b a t).2 ∧ c = (d : Int))) := by
  intro p e hp' he
  have hc : hwCd F n b a t = 4 * ixF F (hwP F n b a t) + d := by rw [hwCd, hd]; rfl
  show (Q p.1 p.2 (e : Int) || decide (p.1 = (hwP F n b a t).1 ∧ p.2 = (hwP F n b a t).2 ∧ (e : Int) = (d : Int))) = _
  rw [hwD, orP, ← h p e hp' he, hc]
  congr 1
  apply decide_eq_decide.2
  constructor
  · rintro ⟨h1, h2, h3⟩
    have : p = hwP F n b a t := Prod.ext h1 h2
    rw [this]
    omega
  · intro h1
    have h2 : ixF F p = ixF F (hwP F n b a t) := by omega
    have := ix_inj hp' hp h2
    rw [this]
    exact ⟨rfl, rfl, by omega⟩

end Go.Proofs.YtpckhpkbdanjoaaDoor

/-
  A map of the call's own whose keys are steps (a cell and a direction) and whose elements are Booleans.-/
namespace Go.Proofs.YtpckhpkbdanjoaaDoor
set_option linter.unusedVariables false
set_option linter.unusedSimpArgs false
open Go.RowKit Go.Maps

theorem lawStep : Keyed Tryd.prog 111 :=
  Keyed.of_law (deep_law_laid (by kernel_rfl) (m := 4) (by omega) (of_decide_eq_true (by kernel_rfl)) (by kernel_rfl) (by rw [Tryd.underlying111]))
abbrev stepV (x y d : Int) : Value := .agg #[.int .i64 x, .int .i64 y, .int .i64 d]
theorem lits_int {P : Program} {t : TypeId} (h : P.underlying t = some (.int .i64)) (n : Nat) (x : Int) (hx : (Lit.int .i64 x).wf = true) : P.keyLits (n + 1) t [.int .i64 x] = some [.int .i64 x] := by
  simp [Program.keyLits, h, hx]
theorem keyStep (x y d : Int) (hx : (Lit.int .i64 x).wf = true) (hy : (Lit.int .i64 y).wf = true) (hd : (Lit.int .i64 d).wf = true) : ∃ l, keyOf Tryd.prog 111 (stepV x y d) = some l := by
  have h2 : 3 ≤ Tryd.prog.types.size := of_decide_eq_true (by kernel_rfl)
  obtain ⟨m, hm⟩ : ∃ m, Tryd.prog.types.size = m + 3 := ⟨_, (Nat.sub_add_cancel h2).symm⟩
  have hk : Tryd.prog.keyType 111 = true := by kernel_rfl
  have hc : Tryd.prog.cellsOf 111 = 3 := by kernel_rfl
  have hc2 : Tryd.prog.cellsOf 38 = 2 := by kernel_rfl
  have hc1 : Tryd.prog.cellsOf 3 = 1 := by kernel_rfl
  have hf : (stepV x y d).formed Tryd.prog 111 = true := by simp [stepV, Value.formed, Tryd.underlying111, hc]
  have e0 : Tryd.prog.keyLits (m + 1 + 1 + 1) 38 [.int .i64 x, .int .i64 y] = some [.int .i64 x, .int .i64 y] := by
    unfold Program.keyLits
    simp [Tryd.underlying38, hc2, hc1, lits_int Tryd.underlying3, hx, hy]
  have e1 : Tryd.prog.keyLits (m + 1 + 1 + 1 + 1) 111 [.int .i64 x, .int .i64 y, .int .i64 d] = some [.int .i64 x, .int .i64 y, .int .i64 d] := by
    unfold Program.keyLits
    simp [Tryd.underlying111, hc, hc2, hc1, lits_int Tryd.underlying3, hd, e0]
  refine ⟨.string (keyBytes [.int .i64 x, .int .i64 y, .int .i64 d]), ?_⟩
  unfold keyOf
  rw [hm]
  simp only [Tryd.underlying111, hk, hf, Bool.and_self, if_true]
  have e2 : (stepV x y d).cells.toList = [.int .i64 x, .int .i64 y, .int .i64 d] := rfl
  rw [e2, show m + 3 + 1 = m + 1 + 1 + 1 + 1 from rfl, e1]
  rfl
/-- The map in block mb says Q of steps; at most n entries. -/
def StepMap (w : World) (mb n : Nat) (Q : Int → Int → Int → Bool) : Prop := ∃ D : DataW Unit, w.ownsMap Tryd.prog 111 (plainElem Tryd.prog 4) mb n D ∧ ∀ x y d l, keyOf Tryd.prog 111 (stepV x y d) = some l → D.atKey l (.lit (.bool false)) = .lit (.bool (Q x y d))
section
variable {w w' : World} {mb n : Nat} {Q : Int → Int → Int → Bool}
theorem isMap_of {P : Program} {k : TypeId} {R : Value → Option (DataW Unit × List MemPlace)} {b : Nat} {D : DataW Unit} (h : w.ownsMap P k R b n D) : IsMap D := by
  obtain ⟨es, clock, _, _, _, hD⟩ := h
  exact ⟨_, hD⟩
theorem StepMap.made (w : World) : StepMap (w.alloc (.map #[] 0)) w.heap.size 0 (fun _ _ _ => false) := ⟨.map [], World.ownsMap_made _ _ _ _, fun _ _ _ _ _ => by simp [DataW.atKey]⟩
theorem StepMap.lt (h : StepMap w mb n Q) : mb < w.heap.size := by
  obtain ⟨D, h1, _⟩ := h
  exact h1.lt
theorem StepMap.keep (h : StepMap w mb n Q) (hk : w'.heap[mb]? = w.heap[mb]?) : StepMap w' mb n Q := by
  obtain ⟨D, ⟨es, clock, hb, F, hs, hD⟩, h2⟩ := h
  exact ⟨D, ⟨es, clock, hk.trans hb, F, hs, hD⟩, h2⟩
theorem StepMap.isMap (h : StepMap w mb n Q) : ∃ es clock, w.heap[mb]? = some (.map es clock) := by
  obtain ⟨D, ⟨es, clock, hb, F, hs, hD⟩, h2⟩ := h
  exact ⟨es, clock, hb⟩
theorem zeroBool (w : World) : (zeroValue 4).run Tryd.prog w = .ok (.bool false) w := by kernel_rfl
theorem plainElem_bool_inv {P : Program} {e : TypeId} {H : Type} (he : P.underlying e = some .bool) {v : Value} {z : DataW H × List MemPlace} (h : plainElem P e v = some z) : ∃ b, v = .bool b ∧ z = (.lit (.bool b), []) := by
  unfold plainElem at h
  rw [he] at h
  cases v <;> simp at h
  subst h
  exact ⟨_, rfl, rfl⟩
theorem StepMap.look (h : StepMap w mb n Q) (x y d : Int) (hx : (Lit.int .i64 x).wf = true) (hy : (Lit.int .i64 y).wf = true) (hd : (Lit.int .i64 d).wf = true) :
    (Instr.lookup 109 (.map (some mb)) (stepV x y d) false).run Tryd.prog w = .ok (.bool (Q x y d)) w := by
  obtain ⟨D, h1, h2⟩ := h
  obtain ⟨l, hl⟩ := keyStep x y d hx hy hd
  obtain ⟨v, ps, hrun, hv⟩ := h1.lookup lawStep Tryd.underlying109 (zeroBool w) (plainElem_bool Tryd.underlying4 false) hl
  obtain ⟨b, rfl, hb⟩ := plainElem_bool_inv Tryd.underlying4 hv
  rw [hrun]
  have h3 := h2 x y d l hl
  simp only [Prod.mk.injEq] at hb
  rw [hb.1] at h3
  have e : b = Q x y d := by
    have h4 := congrArg (fun z : DataW Unit => match z with | .lit (.bool c) => c | _ => false) h3
    exact h4
  rw [e]
theorem StepMap.store (h : StepMap w mb n Q) (x y d : Int) (hx : (Lit.int .i64 x).wf = true) (hy : (Lit.int .i64 y).wf = true) (hd : (Lit.int .i64 d).wf = true) (hn : n < maxLen) :
    ∃ w', (Instr.mapUpdate 109 (.map (some mb)) (stepV x y d) (.bool true)).run Tryd.prog w = .ok () w' ∧ StepMap w' mb (n + 1) (fun a b c => Q a b c || decide (a = x ∧ b = y ∧ c = d)) ∧ w.grownBy w' (some mb) := by
  obtain ⟨D, h1, h2⟩ := h
  obtain ⟨l, hl⟩ := keyStep x y d hx hy hd
  obtain ⟨w', hrun, hown, hg⟩ := h1.update lawStep Tryd.underlying109 hn hl (plainElem_bool Tryd.underlying4 true)
  refine ⟨w', hrun, ⟨_, hown, fun a b c k hk => ?_⟩, hg⟩
  by_cases e : k = l
  · subst e
    have hv := lawStep.inj hk hl
    simp [stepV] at hv
    rw [atKey_put_same (isMap_of h1) (lawStep.key hl)]
    simp [hv]
  · rw [atKey_put_other e, h2 a b c k hk]
    have hne : ¬ (a = x ∧ b = y ∧ c = d) := fun h => e (by
      obtain ⟨rfl, rfl, rfl⟩ := h
      rw [hk] at hl
      exact Option.some.inj hl)
    simp [hne]
end

end Go.Proofs.YtpckhpkbdanjoaaDoor

/-
  Walks: a way with one hand at a wall: the program's.-/
namespace Go.Proofs.YtpckhpkbdanjoaaDoor
set_option linter.unusedVariables false
set_option linter.unusedSimpArgs false
open Go.RowKit

/-- What the call hands back. -/
def HwRow (F : Nat → ByteArray) (n : Nat) (b : Bool) (a : Int × Int) (w : World) (e : Ending) (w' : World) : Prop := ∃ v', e = .returned v' ∧ w'.ownsRow w.heap.size 38 2 v' (hwK F n b a + 1) (rowL (iiC (hwR F n b a) (hwC F n b a)) 2 (hwK F n b a + 1)) ∧ Below w.heap.size w w'
theorem hw_end {F : Nat → ByteArray} {n t ab tb : Nat} {b : Bool} {a p : Int × Int} {w w' : World} {v : Value} (ha : opP F n a = true) (hN : ∀ s, s < t → hwX F n b a s = false) (hx : hwX F n b a t = true) (h : HMem w w' ab tb b p t v (hwR F n b a) (hwC F n b a)) : HwRow F n b a w (.returned v) w' := by
  rw [HwRow, hwK_at ha hN hx]
  exact ⟨v, rfl, h.row.mono (by have := h.al; omega), h.bel⟩
theorem nesw_at {d : Nat} (hd : d < 4) (t : TypeId) (hu : Tryd.prog.underlying t = some .string) (w : World) : (Instr.index t (.string ⟨#[110, 101, 115, 119]⟩) (.int .i64 d)).run Tryd.prog w = .ok (.int .u8 (dL d)) w := by
  have h4 : d = 0 ∨ d = 1 ∨ d = 2 ∨ d = 3 := by omega
  rcases h4 with rfl | rfl | rfl | rfl <;> (simp [Instr.index, go_sem, run_underlying hu, dL]; rfl)
set_option maxRecDepth 100000 in
set_option maxHeartbeats 6400000 in
theorem handWay_any (F : Nat → ByteArray) (n : Nat) (r c : Int) (b : Bool) (lo hi : Nat) (v : Value) (w : World) (hv : Sl w lo hi 1 v n (sC F)) (hhi : hi ≤ w.heap.size) (hg : flB F n = true) (ho : opB F n r c = true) :
    Calls Tryd.prog 65 #[v, .agg #[.int .i64 r, .int .i64 c], .bool b] w (HwRow F n b (r, c) w) := by
  obtain ⟨A, cap, rfl, hcap, _⟩ := id hv.open_
  have HV := hide hv
  have HG := hide hg
  have HA : Hid (opP F n (r, c) = true) := ho
  obtain ⟨ii, hii, iz0, iz1, iz2⟩ := info_parts infoCell2
  have hmm := @run_makeMap Tryd.prog
  clear hv hg ho
  cases b with
  | true =>
    go_enter Tryd.func65, Tryd.ntmps65
    go_wp2_with fail
    obtain ⟨ab, hab⟩ : ∃ ab, ab = w.heap.size := ⟨_, rfl⟩
    obtain ⟨tb, htb⟩ : ∃ tb, tb = w.heap.size + 1 := ⟨_, rfl⟩
    obtain ⟨yb, hyb⟩ : ∃ yb, yb = w.heap.size + 2 := ⟨_, rfl⟩
    obtain ⟨mb, hmb⟩ : ∃ mb, mb = w.heap.size + 3 := ⟨_, rfl⟩
    obtain ⟨W0, hW0⟩ : ∃ W0, W0 = ((((w.alloc (.cells #[.int .i64 r, .int .i64 c] 38)).alloc (.cells #[.int .i64 3, .int .i64 0, .int .i64 1, .int .i64 2] 3)).alloc (.cells #[.int .i64 r, .int .i64 c] 38)).alloc (.map #[] 0)) := ⟨_, rfl⟩
    have b1 : Below w.heap.size w ((w.alloc (.cells #[.int .i64 r, .int .i64 c] 38)).alloc (.cells #[.int .i64 3, .int .i64 0, .int .i64 1, .int .i64 2] 3)) := (by repeat (first | (with_reducible exact Below.refl _ _) | (with_reducible refine below_ov ?_ ?_) | (with_reducible refine Below.setCell ?_ ?_ _) | (with_reducible refine Below.alloc ?_ ?_ _) | (with_reducible refine Below.drew ?_) | (with_reducible refine below_drewN ?_ _) | (refine Below.trans ?_ (Below.mono ‹Below _ _ _› (by first | omega | (simp; done) | (simp; omega)))) | exact Below.refl _ _ | omega | (focus (simp; done)) | (focus (simp; omega))))
    have b2 : Below (w.heap.size + 2) ((w.alloc (.cells #[.int .i64 r, .int .i64 c] 38)).alloc (.cells #[.int .i64 3, .int .i64 0, .int .i64 1, .int .i64 2] 3)) W0 := by rw [hW0]; exact ((Below.refl _ _).alloc (by simp) _).alloc (by simp) _
    have HM0 : Hid (HMem w W0 ab tb true (r, c) 0 (.slice (some ⟨yb, 0, none⟩) 1 1) (hwR F n true (r, c)) (hwC F n true (r, c))) := by
      refine ⟨?_, ?_, ?_, by omega, by omega, b1.trans (b2.mono (by omega))⟩
      · rw [hab]
        refine Bx2.below (B := w.heap.size + 1) ?_ ?_ (by omega) (w := w.alloc (.cells #[.int .i64 r, .int .i64 c] 38))
        · exact Bx2.new w r c
        · rw [hW0]; exact (by repeat (first | (with_reducible exact Below.refl _ _) | (with_reducible refine below_ov ?_ ?_) | (with_reducible refine Below.setCell ?_ ?_ _) | (with_reducible refine Below.alloc ?_ ?_ _) | (with_reducible refine Below.drew ?_) | (with_reducible refine below_drewN ?_ _) | (refine Below.trans ?_ (Below.mono ‹Below _ _ _› (by first | omega | (simp; done) | (simp; omega)))) | exact Below.refl _ _ | omega | (focus (simp; done)) | (focus (simp; omega))))
      · rw [htb, b2.block _ (by omega)]
        have h := heap_alloc_new ((w.alloc (.cells #[.int .i64 r, .int .i64 c] 38))) (.cells #[.int .i64 3, .int .i64 0, .int .i64 1, .int .i64 2] 3)
        simp at h
        simpa [trn] using h
      · have h := (World.ownsRow_lit (base := ab + 1) (e := 38) (size := 2) ((w.alloc (.cells #[.int .i64 r, .int .i64 c] 38)).alloc (.cells #[.int .i64 3, .int .i64 0, .int .i64 1, .int .i64 2] 3)) #[.int .i64 r, .int .i64 c] 1 (by simp; omega) (by unfold maxLen; omega) rfl).alloc (.map #[] 0)
        rw [hW0, hyb]
        simpa [rowL, iiC, hwR, hwC, hwP_zero, List.range, List.range.loop] using h
    have HP0 : Hid (StepMap W0 mb 0 (fun _ _ _ => false)) := by
      have h := StepMap.made (((w.alloc (.cells #[.int .i64 r, .int .i64 c] 38)).alloc (.cells #[.int .i64 3, .int .i64 0, .int .i64 1, .int .i64 2] 3)).alloc (.cells #[.int .i64 r, .int .i64 c] 38))
      show StepMap _ _ _ _
      rw [hW0, hmb]
      simpa using h
    have hsz0 : W0.heap.size = w.heap.size + 4 := by rw [hW0]; simp
    have LM0 : Hid (ab ≠ mb ∧ tb ≠ mb ∧ w.heap.size ≤ mb) := by show _ ∧ _ ∧ _; omega
    rw [← hW0, ← hmb, ← hyb, ← htb, ← hab]
    have HSW := hide hsz0
    clear b1 b2 hW0 hab htb hmb hyb hsz0
    go_loopg [8, 9] (4 * (n * (F 0).size) + 1) (fun gn wv lv wr => ∃ (t m : Nat) (Q : Int → Int → Int → Bool), lv = .int .i64 (hwL F n true (r, c) t : Nat) ∧ 4 * (n * (F 0).size) - t < gn ∧ m ≤ t ∧ Hid (∀ s, s < t → hwX F n true (r, c) s = false) ∧ Hid (HMem w wr ab tb true (hwP F n true (r, c) t) t wv (hwR F n true (r, c)) (hwC F n true (r, c))) ∧ Hid (StepMap wr mb m Q) ∧ Hid (hwQ F n true (r, c) t Q))
    case atStart => exact ⟨0, 0, _, by rw [hwL_zero]; rfl, by omega, by omega, fun s hs => absurd hs (Nat.not_lt_zero _), HM0.out, HP0.out, hwQ_zero⟩
    case round =>
      obtain ⟨t, m, Q, rfl, hgt, hmt, HX, HM, HS, HQ⟩ := hrel
      have HOP : Hid (opP F n (hwP F n true (r, c) t) = true) := hwP_open HA.out HX.out
      have hl4 := hwL_lt (F := F) (n := n) (b := true) (a := (r, c)) t
      obtain ⟨l, hl⟩ : ∃ l, l = hwL F n true (r, c) t := ⟨_, rfl⟩
      rw [← hl] at hl4
      rw [← hl]
      have HL := hide hl
      clear hl
      obtain ⟨p, hp⟩ : ∃ p, p = hwP F n true (r, c) t := ⟨_, rfl⟩
      rw [← hp] at HM HOP
      have HPP := hide hp
      clear hp
      have ht576 : t ≤ 576 := by
        have h1 := hw_le HA.out HX.out
        have h2 := (fl_area HG.out).2
        omega
      go_wp2_with fail
      obtain ⟨wo, ewo⟩ : ∃ wo : World, wo = wr := ⟨_, rfl⟩
      subst ewo
      go_loopg [11, 24] 5 (fun gn dv jv wr => ∃ j : Nat, dv = .int .i64 (-1) ∧ jv = .int .i64 j ∧ j ≤ 4 ∧ 4 - j < gn ∧ Hid (∀ i, i < j → opP F n (stp p (hdI true l i)) = false) ∧ Hid (Below wo.heap.size wo wr))
      case atStart => exact ⟨0, rfl, rfl, by omega, by omega, fun i hi => absurd hi (Nat.not_lt_zero _), Below.refl _ _⟩
      case round =>
        obtain ⟨j, rfl, rfl, hj, hgj, HJ, HB⟩ := hrel
        have M1 := hide (HM.out.below HB.out)
        by_cases hj4 : j < 4
        · have htc := M1.out.turn hj4
          have hz := M1.out.bel.size
          have ltb := M1.out.tlt
          have hd4 := hdI_lt true l j
          obtain ⟨z1, z2⟩ := hdI_rem true l j hl4 hj4
          obtain ⟨d, hd⟩ : ∃ d, d = hdI true l j := ⟨_, rfl⟩
          rw [← hd] at hd4 z2
          obtain ⟨tj, htj⟩ : ∃ tj, tj = trn true j := ⟨_, rfl⟩
          rw [← htj] at htc z1 z2
          have HD := hide hd
          obtain ⟨y, hy⟩ : ∃ y, stp p d = y := ⟨_, rfl⟩
          have HY := hide hy
          obtain ⟨b1, b2, b3, b4⟩ := opP_bd HOP.out
          obtain ⟨g1, g2, g3, g4, _, _⟩ := flB_facts HG.out
          obtain ⟨p0, p1, pf, pl⟩ := M1.out.box
          have hix : ∀ W, (Instr.index 9 (.string ⟨#[110, 101, 115, 119]⟩) (.int .i64 d)).run Tryd.prog W = .ok (.int .u8 (dL d)) W := fun W => nesw_at hd4 _ Tryd.underlying9 W
          clear hd htj hy
          go_wp2_with fail
          clear htc
          (refine wp_region_below_lit (by kernel_rfl) (by kernel_rfl) ?_; (repeat (first | go_big_quiet_step ((first | (go_at_call 75; exact quiet_ov (stepTo_p p y d _ HY.out hd4 (by omega) (by omega) (by omega) (by omega))) | (go_at_call 59; exact quiet_ov (isOpen_any F n y.1 y.2 lo hi _ _ (HV.out.below (B := w.heap.size) (below_ov M1.out.bel (by omega)) hhi) (by simp [ov]; omega) HG.out)))) | quiet_step ((first | (go_at_call 75; exact quiet_ov (stepTo_p p y d _ HY.out hd4 (by omega) (by omega) (by omega) (by omega))) | (go_at_call 59; exact quiet_ov (isOpen_any F n y.1 y.2 lo hi _ _ (HV.out.below (B := w.heap.size) (below_ov M1.out.bel (by omega)) hhi) (by simp [ov]; omega) HG.out)))))); refine wpQuiet_nil ?_; intro w2 hb2; have hz2 := hb2.size; (try (simp at hz2)); obtain ⟨hcw2, hfw2⟩ := bcell hb2; (try (have hy2 : w.heap.size < w2.heap.size := by omega)); (try (have hyy2 : w.heap.size + 1 < w2.heap.size := by omega)))
          have M2 := hide (M1.out.below hb2)
          have HB2 : Hid (Below wo.heap.size wo w2) := HB.out.trans (hb2.mono HB.out.size)
          clear p0 p1 pf pl hcw2 hfw2 hb2 hix z1 z2
          cases e1 : opB F n y.1 y.2 with
          | false =>
            have HJ2 : Hid (∀ i, i < j + 1 → opP F n (stp p (hdI true l i)) = false) := upto_snocF (p := fun i => opP F n (stp p (hdI true l i))) HJ.out (by show opP F n (stp p (hdI true l j)) = false; rw [← HD.out, HY.out]; exact e1)
            go_wp2_with fail
            go_roundg (4 - j)
            case measure => omega
            case rel => exact ⟨j + 1, rfl, by go_num, by omega, by omega, HJ2.out, HB2.out⟩
          | true =>
            have HHJ : Hid (hwJ F n true (r, c) t = (d : Int)) := by
              have h := hdJ_hit hj4 HJ.out (by rw [← HD.out, HY.out]; exact e1)
              show hdJ F n true (hwP F n true (r, c) t) (hwL F n true (r, c) t) 4 = _
              rw [← HPP.out, ← HL.out, h, HD.out]
            have S2 : Hid (StepMap w2 mb m Q) := HS.out.keep (HB2.out.block _ HS.out.lt)
            have HXE : Hid (hwX F n true (r, c) t = Q p.1 p.2 d) := by
              show _ = _
              rw [hwX, HHJ.out, HQ.out p d HOP.out hd4, hwCd, HHJ.out, ← HPP.out, decide_eq_false (by omega)]
              simp
            obtain ⟨p0, p1, pf, pl⟩ := M2.out.box
            have hlk := S2.out.look p.1 p.2 d (wf_small (by omega)) (wf_small (by omega)) (wf_small (by omega))
            obtain ⟨qb, hqb⟩ : ∃ qb, Q p.1 p.2 d = qb := ⟨_, rfl⟩
            rw [hqb] at hlk HXE
            clear hqb
            cases qb with
            | true =>
              clear e1
              go_wp2_with fail
              go_ret
              exact hw_end HA.out HX.out HXE.out M2.out
            | false =>
              obtain ⟨w3, hup, hS3, hg3⟩ := S2.out.store p.1 p.2 d (wf_small (by omega)) (wf_small (by omega)) (wf_small (by omega)) (by unfold maxLen; omega)
              have HX2 : Hid (∀ s, s < t + 1 → hwX F n true (r, c) s = false) := upto_snocF (p := hwX F n true (r, c)) HX.out HXE.out
              have S3 := hide hS3
              have lmb := S2.out.lt
              obtain ⟨es, ck, hes⟩ := S2.out.isMap
              have M3 : Hid (HMem w w3 ab tb true p t u8 (hwR F n true (r, c)) (hwC F n true (r, c))) :=
                M2.out.keep (fun k hk hq => hg3.block k hk (fun e => M2.out.apart hes (fun _ _ h => by cases h) (fun _ _ h => by cases h) LM0.out.1.symm k hk hq (Option.some.inj e))) hg3.size (M2.out.bel.grown hg3 M2.out.bel.size (fun k hk => by have := LM0.out.2.2; injection hk; omega))
              clear hS3 hg3 hes M2
              have HUP := hide hup
              go_wp2_with fail
              clear p0 p1 pf pl hlk hup
              obtain ⟨y2, hy2⟩ : ∃ y2, stp p d = y2 := ⟨_, rfl⟩
              have HY2 := hide hy2
              have HPY : Hid (hwP F n true (r, c) (t + 1) = y2) := by show _ = _; rw [hwP_next, HHJ.out, ← HPP.out]; exact hy2
              have HLY : Hid (hwL F n true (r, c) (t + 1) = d) := by show _ = _; rw [hwL_next, HHJ.out]; rfl
              have HQ2 : Hid (hwQ F n true (r, c) (t + 1) (fun a b' c' => Q a b' c' || decide (a = p.1 ∧ b' = p.2 ∧ c' = (d : Int)))) := by
                have h := hwQ_next HQ.out (by rw [← HPP.out]; exact HOP.out) HHJ.out hd4
                rw [← HPP.out] at h
                exact h
              clear hy2
              have hix : ∀ W, (Instr.index 9 (.string ⟨#[110, 101, 115, 119]⟩) (.int .i64 d)).run Tryd.prog W = .ok (.int .u8 (dL d)) W := fun W => nesw_at hd4 _ Tryd.underlying9 W
              have M3d := hide (M3.out.below (w' := w3.drew) (Below.drew (Below.refl _ _)))
              obtain ⟨p0, p1, pf, pl⟩ := M3d.out.box
              refine wp_region_mix [(1, true), (2, true), (4, true), (0, false), (3, false), (5, false), (6, true)] (fun _ => True) (by kernel_rfl) (by kernel_rfl) (by kernel_rfl) (by kernel_rfl) trivial ?_
              refine mix_look _ _ rfl rfl (fun w' _ => BigFrame.run_move _ rfl w') ?_
              go_simp
              refine mix_look _ (.int .u8 (dL d)) rfl rfl (fun w' hw' => (by go_simp)) ?_
              go_simp
              refine mix_look _ _ rfl rfl (fun w' _ => BigFrame.run_move _ rfl w') ?_
              go_simp
              refine mix_value _ (.agg #[.int .i64 p.1, .int .i64 p.2]) w3.drew rfl rfl (by go_simp) trivial ?_
              go_simp
              refine mix_call _ 75 #[.agg #[.int .i64 p.1, .int .i64 p.2], .int .u8 (dL d)] rfl rfl (by go_simp) ?_
              refine (stepTo_p p y2 d _ HY2.out hd4 (by omega) (by omega) (by omega) (by omega)).mono ?_
              rintro e w6 ⟨rfl, hb6⟩
              refine ⟨_, rfl, trivial, ?_⟩
              go_simp
              have M6 := hide (M3d.out.below hb6)
              have S6 : Hid (StepMap w6 mb (m + 1) (fun a b' c' => Q a b' c' || decide (a = p.1 ∧ b' = p.2 ∧ c' = (d : Int)))) := S3.out.keep (hb6.block _ S3.out.lt)
              clear p0 p1 pf pl hb6 hix
              obtain ⟨p0, p1, pf, pl⟩ := M6.out.box
              obtain ⟨W7, hW7⟩ : ∃ W7, W7 = (w6.setCell ⟨ab, 0, none⟩ (.int .i64 y2.1)).setCell ⟨ab, 1, none⟩ (.int .i64 y2.2) := ⟨_, rfl⟩
              have HW7 := hide hW7
              have M7 : Hid (HMem w W7 ab tb true y2 t u8 (hwR F n true (r, c)) (hwC F n true (r, c))) := by show HMem _ _ _ _ _ _ _ _ _ _; rw [hW7]; exact M6.out.move y2.1 y2.2
              have S7 : Hid (StepMap W7 mb (m + 1) (fun a b' c' => Q a b' c' || decide (a = p.1 ∧ b' = p.2 ∧ c' = (d : Int)))) := by
                show StepMap _ _ _ _
                rw [hW7]
                exact S6.out.keep ((Deep.blk_setCell_other _ _ _ _ (by exact LM0.out.1.symm)).trans (Deep.blk_setCell_other _ _ _ _ (by exact LM0.out.1.symm)))
              clear hW7
              refine mix_store _ W7 rfl rfl (by rw [HW7.out]; go_simp) trivial ?_
              go_simp
              refine mix_look _ _ rfl rfl (fun w' _ => BigFrame.run_assign _ rfl w') ?_
              go_simp
              refine wpMix_nil ?_
              clear p0 p1 pf pl
              obtain ⟨p0, p1, pf, pl⟩ := M7.out.box
              have hal := M7.out.al
              go_wp2_with (at_builtin; refine wpList_append_own _ rfl _ _ 26 rfl (ab + 1) 38 ii (.agg #[.int .i64 0, .int .i64 0]) 2 16 Tryd.underlying26 hii iz0 iz1 iz2 rfl (by decide) _ _ _ rfl (M7.out.row.alloc _) ⟨_, 0, none⟩ 1 1 [.int .i64 y2.1, .int .i64 y2.2] rfl rfl ?_ ?_ ?_ ?_ ?_ ?_)
              · intro i u hu
                match i, hu with
                | 0, hu => simp at hu; subst hu; simp [go_sem, Addr.add]
                | 1, hu => simp at hu; subst hu; simp [go_sem, Addr.add]
              · intro u hu; simp at hu; rcases hu with rfl | rfl <;> rfl
              · unfold maxLen; omega
              · omega
              · simp; omega
              intro v' w8 hown8 hg8 _
              have M8 : Hid (HMem w w8 ab tb true y2 (t + 1) v' (hwR F n true (r, c)) (hwC F n true (r, c))) := by
                refine M7.out.more _ ?_ hg8
                have e : rowL (iiC (hwR F n true (r, c)) (hwC F n true (r, c))) 2 (t + 1 + 1) = rowL (iiC (hwR F n true (r, c)) (hwC F n true (r, c))) 2 (t + 1) ++ [.int .i64 y2.1, .int .i64 y2.2] := by
                  rw [rowL, ← HPY.out]; rfl
                rw [e]
                exact hown8
              have S8 : Hid (StepMap w8 mb (m + 1) (fun a b' c' => Q a b' c' || decide (a = p.1 ∧ b' = p.2 ∧ c' = (d : Int)))) := by
                obtain ⟨es, ck, hes⟩ := S7.out.isMap
                have lmb7 := S7.out.lt
                exact S7.out.keep ((hg8.block mb (by simp; omega) (fun e => row_apart M7.out.row hes (fun _ _ h => by cases h) _ e.symm rfl)).trans (Deep.blk_alloc_lt _ _ _ lmb7))
              clear hown8 hg8 p0 p1 pf pl
              go_wp2_with fail
              have ht4 := hw_le HA.out HX2.out
              go_roundg (4 * (n * (F 0).size) - t)
              case measure => omega
              case rel => exact ⟨t + 1, m + 1, _, by rw [HLY.out], by omega, by omega, HX2.out, (by show HMem _ _ _ _ _ _ _ _ _ _; rw [HPY.out]; exact M8.out), S8.out, HQ2.out⟩
        · have HJ4 : Hid (hwJ F n true (r, c) t = -1) := by
            obtain rfl : j = 4 := by omega
            show hdJ F n true (hwP F n true (r, c) t) (hwL F n true (r, c) t) 4 = -1
            rw [← HPP.out, ← HL.out]
            exact hdJ_no HJ.out
          have HXE : Hid (hwX F n true (r, c) t = true) := by show _ = _; rw [hwX, HJ4.out]; rfl
          go_wp2_with fail
          go_ret
          exact hw_end HA.out HX.out HXE.out M1.out

  | false =>
    go_enter Tryd.func65, Tryd.ntmps65
    go_wp2_with fail
    obtain ⟨ab, hab⟩ : ∃ ab, ab = w.heap.size := ⟨_, rfl⟩
    obtain ⟨tb, htb⟩ : ∃ tb, tb = w.heap.size + 2 := ⟨_, rfl⟩
    obtain ⟨yb, hyb⟩ : ∃ yb, yb = w.heap.size + 3 := ⟨_, rfl⟩
    obtain ⟨mb, hmb⟩ : ∃ mb, mb = w.heap.size + 4 := ⟨_, rfl⟩
    obtain ⟨W0, hW0⟩ : ∃ W0, W0 = (((((w.alloc (.cells #[.int .i64 r, .int .i64 c] 38)).alloc (.cells #[.int .i64 3, .int .i64 0, .int .i64 1, .int .i64 2] 3)).alloc (.cells #[.int .i64 1, .int .i64 0, .int .i64 3, .int .i64 2] 3)).alloc (.cells #[.int .i64 r, .int .i64 c] 38)).alloc (.map #[] 0)) := ⟨_, rfl⟩
    have b1 : Below w.heap.size w (((w.alloc (.cells #[.int .i64 r, .int .i64 c] 38)).alloc (.cells #[.int .i64 3, .int .i64 0, .int .i64 1, .int .i64 2] 3)).alloc (.cells #[.int .i64 1, .int .i64 0, .int .i64 3, .int .i64 2] 3)) := (by repeat (first | (with_reducible exact Below.refl _ _) | (with_reducible refine below_ov ?_ ?_) | (with_reducible refine Below.setCell ?_ ?_ _) | (with_reducible refine Below.alloc ?_ ?_ _) | (with_reducible refine Below.drew ?_) | (with_reducible refine below_drewN ?_ _) | (refine Below.trans ?_ (Below.mono ‹Below _ _ _› (by first | omega | (simp; done) | (simp; omega)))) | exact Below.refl _ _ | omega | (focus (simp; done)) | (focus (simp; omega))))
    have b2 : Below (w.heap.size + 3) (((w.alloc (.cells #[.int .i64 r, .int .i64 c] 38)).alloc (.cells #[.int .i64 3, .int .i64 0, .int .i64 1, .int .i64 2] 3)).alloc (.cells #[.int .i64 1, .int .i64 0, .int .i64 3, .int .i64 2] 3)) W0 := by rw [hW0]; exact ((Below.refl _ _).alloc (by simp) _).alloc (by simp) _
    have HM0 : Hid (HMem w W0 ab tb false (r, c) 0 (.slice (some ⟨yb, 0, none⟩) 1 1) (hwR F n false (r, c)) (hwC F n false (r, c))) := by
      refine ⟨?_, ?_, ?_, by omega, by omega, b1.trans (b2.mono (by omega))⟩
      · rw [hab]
        refine Bx2.below (B := w.heap.size + 1) ?_ ?_ (by omega) (w := w.alloc (.cells #[.int .i64 r, .int .i64 c] 38))
        · exact Bx2.new w r c
        · rw [hW0]; exact (by repeat (first | (with_reducible exact Below.refl _ _) | (with_reducible refine below_ov ?_ ?_) | (with_reducible refine Below.setCell ?_ ?_ _) | (with_reducible refine Below.alloc ?_ ?_ _) | (with_reducible refine Below.drew ?_) | (with_reducible refine below_drewN ?_ _) | (refine Below.trans ?_ (Below.mono ‹Below _ _ _› (by first | omega | (simp; done) | (simp; omega)))) | exact Below.refl _ _ | omega | (focus (simp; done)) | (focus (simp; omega))))
      · rw [htb, b2.block _ (by omega)]
        have h := heap_alloc_new (((w.alloc (.cells #[.int .i64 r, .int .i64 c] 38)).alloc (.cells #[.int .i64 3, .int .i64 0, .int .i64 1, .int .i64 2] 3))) (.cells #[.int .i64 1, .int .i64 0, .int .i64 3, .int .i64 2] 3)
        simp at h
        simpa [trn] using h
      · have h := (World.ownsRow_lit (base := ab + 1) (e := 38) (size := 2) (((w.alloc (.cells #[.int .i64 r, .int .i64 c] 38)).alloc (.cells #[.int .i64 3, .int .i64 0, .int .i64 1, .int .i64 2] 3)).alloc (.cells #[.int .i64 1, .int .i64 0, .int .i64 3, .int .i64 2] 3)) #[.int .i64 r, .int .i64 c] 1 (by simp; omega) (by unfold maxLen; omega) rfl).alloc (.map #[] 0)
        rw [hW0, hyb]
        simpa [rowL, iiC, hwR, hwC, hwP_zero, List.range, List.range.loop] using h
    have HP0 : Hid (StepMap W0 mb 0 (fun _ _ _ => false)) := by
      have h := StepMap.made ((((w.alloc (.cells #[.int .i64 r, .int .i64 c] 38)).alloc (.cells #[.int .i64 3, .int .i64 0, .int .i64 1, .int .i64 2] 3)).alloc (.cells #[.int .i64 1, .int .i64 0, .int .i64 3, .int .i64 2] 3)).alloc (.cells #[.int .i64 r, .int .i64 c] 38))
      show StepMap _ _ _ _
      rw [hW0, hmb]
      simpa using h
    have hsz0 : W0.heap.size = w.heap.size + 5 := by rw [hW0]; simp
    have LM0 : Hid (ab ≠ mb ∧ tb ≠ mb ∧ w.heap.size ≤ mb) := by show _ ∧ _ ∧ _; omega
    rw [← hW0, ← hmb, ← hyb, ← htb, ← hab]
    have HSW := hide hsz0
    clear b1 b2 hW0 hab htb hmb hyb hsz0
    go_loopg [8, 9] (4 * (n * (F 0).size) + 1) (fun gn wv lv wr => ∃ (t m : Nat) (Q : Int → Int → Int → Bool), lv = .int .i64 (hwL F n false (r, c) t : Nat) ∧ 4 * (n * (F 0).size) - t < gn ∧ m ≤ t ∧ Hid (∀ s, s < t → hwX F n false (r, c) s = false) ∧ Hid (HMem w wr ab tb false (hwP F n false (r, c) t) t wv (hwR F n false (r, c)) (hwC F n false (r, c))) ∧ Hid (StepMap wr mb m Q) ∧ Hid (hwQ F n false (r, c) t Q))
    case atStart => exact ⟨0, 0, _, by rw [hwL_zero]; rfl, by omega, by omega, fun s hs => absurd hs (Nat.not_lt_zero _), HM0.out, HP0.out, hwQ_zero⟩
    case round =>
      obtain ⟨t, m, Q, rfl, hgt, hmt, HX, HM, HS, HQ⟩ := hrel
      have HOP : Hid (opP F n (hwP F n false (r, c) t) = true) := hwP_open HA.out HX.out
      have hl4 := hwL_lt (F := F) (n := n) (b := false) (a := (r, c)) t
      obtain ⟨l, hl⟩ : ∃ l, l = hwL F n false (r, c) t := ⟨_, rfl⟩
      rw [← hl] at hl4
      rw [← hl]
      have HL := hide hl
      clear hl
      obtain ⟨p, hp⟩ : ∃ p, p = hwP F n false (r, c) t := ⟨_, rfl⟩
      rw [← hp] at HM HOP
      have HPP := hide hp
      clear hp
      have ht576 : t ≤ 576 := by
        have h1 := hw_le HA.out HX.out
        have h2 := (fl_area HG.out).2
        omega
      go_wp2_with fail
      obtain ⟨wo, ewo⟩ : ∃ wo : World, wo = wr := ⟨_, rfl⟩
      subst ewo
      go_loopg [11, 24] 5 (fun gn dv jv wr => ∃ j : Nat, dv = .int .i64 (-1) ∧ jv = .int .i64 j ∧ j ≤ 4 ∧ 4 - j < gn ∧ Hid (∀ i, i < j → opP F n (stp p (hdI false l i)) = false) ∧ Hid (Below wo.heap.size wo wr))
      case atStart => exact ⟨0, rfl, rfl, by omega, by omega, fun i hi => absurd hi (Nat.not_lt_zero _), Below.refl _ _⟩
      case round =>
        obtain ⟨j, rfl, rfl, hj, hgj, HJ, HB⟩ := hrel
        have M1 := hide (HM.out.below HB.out)
        by_cases hj4 : j < 4
        · have htc := M1.out.turn hj4
          have hz := M1.out.bel.size
          have ltb := M1.out.tlt
          have hd4 := hdI_lt false l j
          obtain ⟨z1, z2⟩ := hdI_rem false l j hl4 hj4
          obtain ⟨d, hd⟩ : ∃ d, d = hdI false l j := ⟨_, rfl⟩
          rw [← hd] at hd4 z2
          obtain ⟨tj, htj⟩ : ∃ tj, tj = trn false j := ⟨_, rfl⟩
          rw [← htj] at htc z1 z2
          have HD := hide hd
          obtain ⟨y, hy⟩ : ∃ y, stp p d = y := ⟨_, rfl⟩
          have HY := hide hy
          obtain ⟨b1, b2, b3, b4⟩ := opP_bd HOP.out
          obtain ⟨g1, g2, g3, g4, _, _⟩ := flB_facts HG.out
          obtain ⟨p0, p1, pf, pl⟩ := M1.out.box
          have hix : ∀ W, (Instr.index 9 (.string ⟨#[110, 101, 115, 119]⟩) (.int .i64 d)).run Tryd.prog W = .ok (.int .u8 (dL d)) W := fun W => nesw_at hd4 _ Tryd.underlying9 W
          clear hd htj hy
          go_wp2_with fail
          clear htc
          (refine wp_region_below_lit (by kernel_rfl) (by kernel_rfl) ?_; (repeat (first | go_big_quiet_step ((first | (go_at_call 75; exact quiet_ov (stepTo_p p y d _ HY.out hd4 (by omega) (by omega) (by omega) (by omega))) | (go_at_call 59; exact quiet_ov (isOpen_any F n y.1 y.2 lo hi _ _ (HV.out.below (B := w.heap.size) (below_ov M1.out.bel (by omega)) hhi) (by simp [ov]; omega) HG.out)))) | quiet_step ((first | (go_at_call 75; exact quiet_ov (stepTo_p p y d _ HY.out hd4 (by omega) (by omega) (by omega) (by omega))) | (go_at_call 59; exact quiet_ov (isOpen_any F n y.1 y.2 lo hi _ _ (HV.out.below (B := w.heap.size) (below_ov M1.out.bel (by omega)) hhi) (by simp [ov]; omega) HG.out)))))); refine wpQuiet_nil ?_; intro w2 hb2; have hz2 := hb2.size; (try (simp at hz2)); obtain ⟨hcw2, hfw2⟩ := bcell hb2; (try (have hy2 : w.heap.size < w2.heap.size := by omega)); (try (have hyy2 : w.heap.size + 1 < w2.heap.size := by omega)))
          have M2 := hide (M1.out.below hb2)
          have HB2 : Hid (Below wo.heap.size wo w2) := HB.out.trans (hb2.mono HB.out.size)
          clear p0 p1 pf pl hcw2 hfw2 hb2 hix z1 z2
          cases e1 : opB F n y.1 y.2 with
          | false =>
            have HJ2 : Hid (∀ i, i < j + 1 → opP F n (stp p (hdI false l i)) = false) := upto_snocF (p := fun i => opP F n (stp p (hdI false l i))) HJ.out (by show opP F n (stp p (hdI false l j)) = false; rw [← HD.out, HY.out]; exact e1)
            go_wp2_with fail
            go_roundg (4 - j)
            case measure => omega
            case rel => exact ⟨j + 1, rfl, by go_num, by omega, by omega, HJ2.out, HB2.out⟩
          | true =>
            have HHJ : Hid (hwJ F n false (r, c) t = (d : Int)) := by
              have h := hdJ_hit hj4 HJ.out (by rw [← HD.out, HY.out]; exact e1)
              show hdJ F n false (hwP F n false (r, c) t) (hwL F n false (r, c) t) 4 = _
              rw [← HPP.out, ← HL.out, h, HD.out]
            have S2 : Hid (StepMap w2 mb m Q) := HS.out.keep (HB2.out.block _ HS.out.lt)
            have HXE : Hid (hwX F n false (r, c) t = Q p.1 p.2 d) := by
              show _ = _
              rw [hwX, HHJ.out, HQ.out p d HOP.out hd4, hwCd, HHJ.out, ← HPP.out, decide_eq_false (by omega)]
              simp
            obtain ⟨p0, p1, pf, pl⟩ := M2.out.box
            have hlk := S2.out.look p.1 p.2 d (wf_small (by omega)) (wf_small (by omega)) (wf_small (by omega))
            obtain ⟨qb, hqb⟩ : ∃ qb, Q p.1 p.2 d = qb := ⟨_, rfl⟩
            rw [hqb] at hlk HXE
            clear hqb
            cases qb with
            | true =>
              clear e1
              go_wp2_with fail
              go_ret
              exact hw_end HA.out HX.out HXE.out M2.out
            | false =>
              obtain ⟨w3, hup, hS3, hg3⟩ := S2.out.store p.1 p.2 d (wf_small (by omega)) (wf_small (by omega)) (wf_small (by omega)) (by unfold maxLen; omega)
              have HX2 : Hid (∀ s, s < t + 1 → hwX F n false (r, c) s = false) := upto_snocF (p := hwX F n false (r, c)) HX.out HXE.out
              have S3 := hide hS3
              have lmb := S2.out.lt
              obtain ⟨es, ck, hes⟩ := S2.out.isMap
              have M3 : Hid (HMem w w3 ab tb false p t u8 (hwR F n false (r, c)) (hwC F n false (r, c))) :=
                M2.out.keep (fun k hk hq => hg3.block k hk (fun e => M2.out.apart hes (fun _ _ h => by cases h) (fun _ _ h => by cases h) LM0.out.1.symm k hk hq (Option.some.inj e))) hg3.size (M2.out.bel.grown hg3 M2.out.bel.size (fun k hk => by have := LM0.out.2.2; injection hk; omega))
              clear hS3 hg3 hes M2
              have HUP := hide hup
              go_wp2_with fail
              clear p0 p1 pf pl hlk hup
              obtain ⟨y2, hy2⟩ : ∃ y2, stp p d = y2 := ⟨_, rfl⟩
              have HY2 := hide hy2
              have HPY : Hid (hwP F n false (r, c) (t + 1) = y2) := by show _ = _; rw [hwP_next, HHJ.out, ← HPP.out]; exact hy2
              have HLY : Hid (hwL F n false (r, c) (t + 1) = d) := by show _ = _; rw [hwL_next, HHJ.out]; rfl
              have HQ2 : Hid (hwQ F n false (r, c) (t + 1) (fun a b' c' => Q a b' c' || decide (a = p.1 ∧ b' = p.2 ∧ c' = (d : Int)))) := by
                have h := hwQ_next HQ.out (by rw [← HPP.out]; exact HOP.out) HHJ.out hd4
                rw [← HPP.out] at h
                exact h
              clear hy2
              have hix : ∀ W, (Instr.index 9 (.string ⟨#[110, 101, 115, 119]⟩) (.int .i64 d)).run Tryd.prog W = .ok (.int .u8 (dL d)) W := fun W => nesw_at hd4 _ Tryd.underlying9 W
              have M3d := hide (M3.out.below (w' := w3.drew) (Below.drew (Below.refl _ _)))
              obtain ⟨p0, p1, pf, pl⟩ := M3d.out.box
              refine wp_region_mix [(1, true), (2, true), (4, true), (0, false), (3, false), (5, false), (6, true)] (fun _ => True) (by kernel_rfl) (by kernel_rfl) (by kernel_rfl) (by kernel_rfl) trivial ?_
              refine mix_look _ _ rfl rfl (fun w' _ => BigFrame.run_move _ rfl w') ?_
              go_simp
              refine mix_look _ (.int .u8 (dL d)) rfl rfl (fun w' hw' => (by go_simp)) ?_
              go_simp
              refine mix_look _ _ rfl rfl (fun w' _ => BigFrame.run_move _ rfl w') ?_
              go_simp
              refine mix_value _ (.agg #[.int .i64 p.1, .int .i64 p.2]) w3.drew rfl rfl (by go_simp) trivial ?_
              go_simp
              refine mix_call _ 75 #[.agg #[.int .i64 p.1, .int .i64 p.2], .int .u8 (dL d)] rfl rfl (by go_simp) ?_
              refine (stepTo_p p y2 d _ HY2.out hd4 (by omega) (by omega) (by omega) (by omega)).mono ?_
              rintro e w6 ⟨rfl, hb6⟩
              refine ⟨_, rfl, trivial, ?_⟩
              go_simp
              have M6 := hide (M3d.out.below hb6)
              have S6 : Hid (StepMap w6 mb (m + 1) (fun a b' c' => Q a b' c' || decide (a = p.1 ∧ b' = p.2 ∧ c' = (d : Int)))) := S3.out.keep (hb6.block _ S3.out.lt)
              clear p0 p1 pf pl hb6 hix
              obtain ⟨p0, p1, pf, pl⟩ := M6.out.box
              obtain ⟨W7, hW7⟩ : ∃ W7, W7 = (w6.setCell ⟨ab, 0, none⟩ (.int .i64 y2.1)).setCell ⟨ab, 1, none⟩ (.int .i64 y2.2) := ⟨_, rfl⟩
              have HW7 := hide hW7
              have M7 : Hid (HMem w W7 ab tb false y2 t u8 (hwR F n false (r, c)) (hwC F n false (r, c))) := by show HMem _ _ _ _ _ _ _ _ _ _; rw [hW7]; exact M6.out.move y2.1 y2.2
              have S7 : Hid (StepMap W7 mb (m + 1) (fun a b' c' => Q a b' c' || decide (a = p.1 ∧ b' = p.2 ∧ c' = (d : Int)))) := by
                show StepMap _ _ _ _
                rw [hW7]
                exact S6.out.keep ((Deep.blk_setCell_other _ _ _ _ (by exact LM0.out.1.symm)).trans (Deep.blk_setCell_other _ _ _ _ (by exact LM0.out.1.symm)))
              clear hW7
              refine mix_store _ W7 rfl rfl (by rw [HW7.out]; go_simp) trivial ?_
              go_simp
              refine mix_look _ _ rfl rfl (fun w' _ => BigFrame.run_assign _ rfl w') ?_
              go_simp
              refine wpMix_nil ?_
              clear p0 p1 pf pl
              obtain ⟨p0, p1, pf, pl⟩ := M7.out.box
              have hal := M7.out.al
              go_wp2_with (at_builtin; refine wpList_append_own _ rfl _ _ 26 rfl (ab + 1) 38 ii (.agg #[.int .i64 0, .int .i64 0]) 2 16 Tryd.underlying26 hii iz0 iz1 iz2 rfl (by decide) _ _ _ rfl (M7.out.row.alloc _) ⟨_, 0, none⟩ 1 1 [.int .i64 y2.1, .int .i64 y2.2] rfl rfl ?_ ?_ ?_ ?_ ?_ ?_)
              · intro i u hu
                match i, hu with
                | 0, hu => simp at hu; subst hu; simp [go_sem, Addr.add]
                | 1, hu => simp at hu; subst hu; simp [go_sem, Addr.add]
              · intro u hu; simp at hu; rcases hu with rfl | rfl <;> rfl
              · unfold maxLen; omega
              · omega
              · simp; omega
              intro v' w8 hown8 hg8 _
              have M8 : Hid (HMem w w8 ab tb false y2 (t + 1) v' (hwR F n false (r, c)) (hwC F n false (r, c))) := by
                refine M7.out.more _ ?_ hg8
                have e : rowL (iiC (hwR F n false (r, c)) (hwC F n false (r, c))) 2 (t + 1 + 1) = rowL (iiC (hwR F n false (r, c)) (hwC F n false (r, c))) 2 (t + 1) ++ [.int .i64 y2.1, .int .i64 y2.2] := by
                  rw [rowL, ← HPY.out]; rfl
                rw [e]
                exact hown8
              have S8 : Hid (StepMap w8 mb (m + 1) (fun a b' c' => Q a b' c' || decide (a = p.1 ∧ b' = p.2 ∧ c' = (d : Int)))) := by
                obtain ⟨es, ck, hes⟩ := S7.out.isMap
                have lmb7 := S7.out.lt
                exact S7.out.keep ((hg8.block mb (by simp; omega) (fun e => row_apart M7.out.row hes (fun _ _ h => by cases h) _ e.symm rfl)).trans (Deep.blk_alloc_lt _ _ _ lmb7))
              clear hown8 hg8 p0 p1 pf pl
              go_wp2_with fail
              have ht4 := hw_le HA.out HX2.out
              go_roundg (4 * (n * (F 0).size) - t)
              case measure => omega
              case rel => exact ⟨t + 1, m + 1, _, by rw [HLY.out], by omega, by omega, HX2.out, (by show HMem _ _ _ _ _ _ _ _ _ _; rw [HPY.out]; exact M8.out), S8.out, HQ2.out⟩
        · have HJ4 : Hid (hwJ F n false (r, c) t = -1) := by
            obtain rfl : j = 4 := by omega
            show hdJ F n false (hwP F n false (r, c) t) (hwL F n false (r, c) t) 4 = -1
            rw [← HPP.out, ← HL.out]
            exact hdJ_no HJ.out
          have HXE : Hid (hwX F n false (r, c) t = true) := by show _ = _; rw [hwX, HJ4.out]; rfl
          go_wp2_with fail
          go_ret
          exact hw_end HA.out HX.out HXE.out M1.out


end Go.Proofs.YtpckhpkbdanjoaaDoor
