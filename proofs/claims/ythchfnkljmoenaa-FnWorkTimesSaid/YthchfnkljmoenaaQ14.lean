/-
  Texts of this proof, one behind the other (part 14).
-/
import Derived.Test.YthchfnkljmoenaaQ13
import Derived.OpenShut
import Derived.Carry
import Derived.SizedLaws
import Derived.Lib.SmallJoins
import Derived.Deep.Slices
import Derived.Deep.Fields
import Derived.ChangeMaps5
import Derived.Ground.NamesProg
import Derived.Shelf.Lay
import Derived.Shelf.Slices.In.CompactS
import Derived.Shelf.Slices.In.SortAlone
import Derived.Shelf.Slices.In.SortNone
import Derived.Sort.OwnSorted
import Derived.Sort.EveryDepth
import Derived.Sort.Grow
import Derived.Lib.OwnBridge
/-
  Plain words for FnWorkTimes: rest, work, who is due and short rests fit together. No program in sight.-/
namespace Go.Proofs.Ythchfnkljmoenaa
set_option linter.unusedVariables false
set_option linter.unusedSimpArgs false

theorem fst_iff {f : Nat → Bool} {m : Nat} : decide (0 ≤ fstI f m) = true ↔ ∃ t, t < m ∧ f t = true := by
  rw [decide_eq_true_eq]
  rcases fstI_cases f m with ⟨h1, h2⟩ | ⟨k, h1, h2, h3, _⟩
  · rw [h1]
    refine ⟨fun h => by omega, fun ⟨t, ht, h⟩ => ?_⟩
    rw [h2 t ht] at h
    cases h
  · rw [h2]
    exact ⟨fun _ => ⟨k, h1, h3⟩, fun _ => by omega⟩
theorem flt_mem {P : Nat → Bool} : ∀ {N k : Nat}, k ∈ flt P N ↔ k < N ∧ P k = true
  | 0, k => by simp [flt]
  | N + 1, k => by
    rw [flt, List.mem_append, flt_mem]
    by_cases h : P N = true
    · rw [if_pos h]
      simp only [List.mem_singleton]
      constructor
      · rintro (⟨h1, h2⟩ | rfl)
        · exact ⟨by omega, h2⟩
        · exact ⟨by omega, h⟩
      · rintro ⟨h1, h2⟩
        by_cases e : k = N
        · exact .inr e
        · exact .inl ⟨by omega, h2⟩
    · rw [if_neg h]
      simp only [List.not_mem_nil, or_false]
      constructor
      · rintro ⟨h1, h2⟩; exact ⟨by omega, h2⟩
      · rintro ⟨h1, h2⟩
        by_cases e : k = N
        · subst e; exact absurd h2 h
        · exact ⟨by omega, h2⟩
theorem flt_idx {P : Nat → Bool} {N i : Nat} (hi : i < (flt P N).length) : ∃ k, k < N ∧ P k = true ∧ fltI P N i = (k : Nat) := by
  have hm : (flt P N).getD i 0 ∈ flt P N := by
    simp only [List.getD]
    rw [List.getElem?_eq_getElem hi]
    exact List.getElem_mem hi
  have h := flt_mem.1 hm
  exact ⟨_, h.1, h.2, rfl⟩
/-- A text is among the first n. -/
def hasT (F : Nat → ByteArray) (s : ByteArray) (n : Nat) : Bool := decide (0 ≤ fstI (fun i => decide (F i = s)) n)
theorem hasT_list {L : List (List UInt8)} {s : ByteArray} : hasT (tl L) s L.length = true ↔ s.toList ∈ L := by
  rw [hasT, fst_iff]
  constructor
  · rintro ⟨t, ht, e⟩
    have e := of_decide_eq_true e
    rw [← e, tl_list]
    simp only [List.getD]
    rw [List.getElem?_eq_getElem ht]
    exact List.getElem_mem ht
  · intro h
    obtain ⟨t, ht, e⟩ := List.getElem_of_mem h
    refine ⟨t, ht, decide_eq_true (toList_inj ?_)⟩
    rw [tl_list]
    simp only [List.getD]
    rw [List.getElem?_eq_getElem ht]
    exact e
theorem sel_mem {c : Nat → ByteArray} {p : Nat → Bool} {k : Nat} {s : ByteArray} : s.toList ∈ sel c p k ↔ ∃ i, i < k ∧ p i = true ∧ c i = s := by
  rw [sel, List.mem_map]
  constructor
  · rintro ⟨i, hi, e⟩
    have := flt_mem.1 hi
    exact ⟨i, this.1, this.2, toList_inj e⟩
  · rintro ⟨i, h1, h2, rfl⟩
    exact ⟨i, flt_mem.2 ⟨h1, h2⟩, rfl⟩
section
variable {c : Nat → ByteArray} {a b : Nat → Int} {n : Nat} {s : ByteArray} {m q : Int}
theorem crews_has (h : caOk c a b n m = true) : hasT (caS c a b n m) s (caN c a b n m) = anyAt c a b n s m := by
  rw [Bool.eq_iff_iff, caS, caN, hasT_list, caR, if_pos h, putAll_mem, sel_mem, anyAt, fst_iff]
  constructor
  · rintro ⟨i, h1, h2, h3⟩
    refine ⟨i, h1, ?_⟩
    simp only [atI, h3, decide_true, Bool.true_and]
    exact h2
  · rintro ⟨i, h1, h2⟩
    simp only [atI, Bool.and_eq_true, decide_eq_true_eq] at h2
    exact ⟨i, h1, h2.2, h2.1⟩
theorem dues_has (h : dcOk c a b n m q = true) : hasT (dcS c a b n m q) s (dcN c a b n m q) = dueB c a b s m n q := by
  rw [Bool.eq_iff_iff, dcS, dcN, hasT_list, dcR, if_pos h, putAll_mem, sel_mem]
  constructor
  · rintro ⟨i, h1, h2, rfl⟩
    exact h2
  · intro h1
    have h2 := h1
    simp only [dueB, Bool.and_eq_true] at h1
    obtain ⟨t, ht, h3⟩ := fst_iff.1 h1.1
    simp only [atI, Bool.and_eq_true, decide_eq_true_eq] at h3
    exact ⟨t, ht, by rw [dcP, h3.1]; exact h2, h3.1⟩
theorem wk_up (hp : pdB c a b n = true) {k : Nat} (hk : k < n) : wkF c a b s m k ≤ wkF c a b s m (k + 1) := by
  have h0 := (perB_iff.1 ((pd_facts hp).2 k hk).1).2
  by_cases h : c k = s ∧ a k < m
  · rw [wk_yes h.1 h.2]; omega
  · rw [wk_no h]; omega
theorem wk_le (hp : pdB c a b n = true) {j : Nat} : ∀ {k : Nat}, j ≤ k → k ≤ n → wkF c a b s m j ≤ wkF c a b s m k
  | 0, h, _ => by
    obtain rfl : j = 0 := by omega
    exact Int.le_refl _
  | k + 1, h, hk => by
    rcases Nat.lt_or_ge k j with h1 | h1
    · obtain rfl : j = k + 1 := by omega
      exact Int.le_refl _
    · exact Int.le_trans (wk_le hp h1 (by omega)) (wk_up hp (by omega))
theorem wk_zero (hp : pdB c a b n = true) {k : Nat} (hk : k ≤ n) : 0 ≤ wkF c a b s m k := wk_le (j := 0) hp (Nat.zero_le _) hk
theorem rs_has : ∀ {k : Nat}, 0 ≤ rsF c b s m k → ∃ j, j < k ∧ c j = s ∧ b j ≤ m
  | 0, h => by simp [rsF] at h
  | k + 1, h => by
    by_cases h1 : c k = s ∧ b k ≤ m
    · exact ⟨k, by omega, h1⟩
    · rw [rs_no h1] at h
      obtain ⟨j, h2, h3⟩ := rs_has h
      exact ⟨j, by omega, h3⟩
theorem rs_ge {j : Nat} (hc : c j = s) (hb : b j ≤ m) : ∀ {k : Nat}, j < k → b j ≤ rsF c b s m k
  | k + 1, hj => by
    rcases Nat.lt_or_ge j k with h | h
    · have ih := rs_ge hc hb h
      by_cases h1 : c k = s ∧ b k ≤ m
      · rw [rs_yes h1.1 h1.2]; omega
      · rw [rs_no h1]; exact ih
    · obtain rfl : j = k := by omega
      rw [rs_yes hc hb]; omega
theorem rest_facts (h : restOk c a b n s m = true) : askP c a b n s m = true ∧ caOk c a b n m = true ∧ 0 ≤ restN c a b n s m ∧ (anyAt c a b n s m = true → restN c a b n s m = 0) ∧ (0 < restN c a b n s m → anyAt c a b n s m = false ∧ 0 < wkN c a b n s m) := by
  have hk : askP c a b n s m = true := by simp only [restOk, Bool.and_eq_true] at h; exact h.1
  obtain ⟨hp, hm, hm'⟩ := ask_facts hk
  refine ⟨hk, by simp only [caOk, Bool.and_eq_true, inB_iff]; exact ⟨hp, hm, hm'⟩, ?_⟩
  cases e : anyAt c a b n s m with
  | true =>
    rw [(rest_at hk e).1]
    exact ⟨Int.le_refl _, fun _ => rfl, fun h => by omega⟩
  | false =>
    have e2 : decide (rsF c b s m n < 0) = false := by simpa [restOk, hk, e] using h
    rw [(rest_yes hk e e2).1]
    have h0 := of_decide_eq_false e2
    have h1 := (rs_bd (c := c) (b := b) (s := s) (m := m) n).2
    refine ⟨by omega, (fun h => by cases h), fun _ => ⟨rfl, ?_⟩⟩
    obtain ⟨j, hj, h2, h3⟩ := rs_has (show 0 ≤ rsF c b s m n by omega)
    have h4 := (perB_iff.1 ((pd_facts hp).2 j hj).1).2
    have h5 := wk_le (s := s) (m := m) hp (show j + 1 ≤ n by omega) (Nat.le_refl n)
    have h6 := wk_zero (s := s) (m := m) hp (show j ≤ n by omega)
    rw [wk_yes h2 (by omega)] at h5
    rw [wkN, if_pos hk]
    omega
theorem wk_spell (hp : pdB c a b n = true) : ∀ N i, i < N → i < n → c i = s → a i ≤ m → min (b i) m - stF c a b i ≤ wkF c a b s m (i + 1)
  | N + 1, i, hN, hi, hc, ha => by
    have h0 := (perB_iff.1 ((pd_facts hp).2 i hi).1).2
    have hz := wk_zero (s := s) (m := m) hp (show i ≤ n by omega)
    have hup := wk_up (s := s) (m := m) hp hi
    have plain : stF c a b i = a i → min (b i) m - stF c a b i ≤ wkF c a b s m (i + 1) := fun e => by
      rw [e]
      by_cases h1 : a i < m
      · rw [wk_yes hc h1]; omega
      · omega
    by_cases hb0 : befI c i < 0
    · exact plain (st_none hb0)
    · obtain ⟨k, hk⟩ : ∃ k : Nat, befI c i = k := ⟨(befI c i).toNat, by omega⟩
      obtain ⟨h1, h2, _⟩ := befI_facts hk
      by_cases he : b k = a i
      · rw [st_join hk he]
        have h3 := (perB_iff.1 ((pd_facts hp).2 k (by omega)).1).2
        have ih := wk_spell hp N k (by omega) (by omega) (h2.trans hc) (by omega)
        have h4 := wk_le (s := s) (m := m) hp (show k + 1 ≤ i by omega) (show i ≤ n by omega)
        by_cases h5 : a i < m
        · rw [wk_yes hc h5]; omega
        · omega
      · exact plain (st_gap hp hi hk he)
theorem due_worked (hk : askP c a b n s m = true) (h : dueB c a b s m n q = true) : q ≤ wkN c a b n s m := by
  obtain ⟨hp, hm, hm'⟩ := ask_facts hk
  simp only [dueB, Bool.and_eq_true, decide_eq_true_eq] at h
  obtain ⟨h1, h2⟩ := h
  rcases fstI_cases (atI c a b s m) n with ⟨e, _⟩ | ⟨j, hj, e, h3, _⟩
  · omega
  · rw [e, Int.toNat_natCast] at h2
    simp only [atI, Bool.and_eq_true, decide_eq_true_eq, inB_iff] at h3
    have h4 := wk_spell (m := m) hp (j + 1) j (by omega) hj h3.1 (by omega)
    have h5 := wk_le (s := s) (m := m) hp (show j + 1 ≤ n by omega) (Nat.le_refl n)
    rw [wkN, if_pos hk]
    omega
theorem due_parts (h : dueOk c a b n s m q = true) : askP c a b n s m = true ∧ dcOk c a b n m q = true ∧ dueR c a b n s m q = dueB c a b s m n q := by
  have h2 := h
  simp only [dueOk, Bool.and_eq_true] at h
  refine ⟨h.1, ?_, by rw [dueR, h2]; rfl⟩
  have h3 := h.1
  simp only [askP, Bool.and_eq_true] at h3
  simp only [dcOk, Bool.and_eq_true]
  exact ⟨⟨h3.1.1, h3.2⟩, h.2⟩
theorem short_rest (h : srOk c a b n q = true) {i : Nat} (hi : i < n) (hs : srP c a b q i = true) : restOk c a b n (c i) (a i - 1) = true ∧ restN c a b n (c i) (a i - 1) + 1 < q := by
  have hp : pdB c a b n = true := by simp only [srOk, Bool.and_eq_true] at h; exact h.1
  simp only [srP, Bool.and_eq_true, decide_eq_true_eq, inB_iff] at hs
  obtain ⟨hs1, hs2, hs3⟩ := hs
  obtain ⟨k, hk⟩ : ∃ k : Nat, befI c i = k := ⟨(befI c i).toNat, by omega⟩
  rw [hk, Int.toNat_natCast] at hs2 hs3
  obtain ⟨h1, h2, h3⟩ := befI_facts hk
  have pi := perB_iff.1 ((pd_facts hp).2 i hi).1
  have pk := perB_iff.1 ((pd_facts hp).2 k (by omega)).1
  have hask : askP c a b n (c i) (a i - 1) = true := by
    simp only [askP, Bool.and_eq_true, inB_iff]
    exact ⟨⟨hp, pi.1⟩, by omega, by omega⟩
  have hany : anyAt c a b n (c i) (a i - 1) = false := by
    rw [Bool.eq_false_iff, ne_eq, anyAt, fst_iff]
    rintro ⟨j, hj, e⟩
    simp only [atI, Bool.and_eq_true, decide_eq_true_eq, inB_iff] at e
    obtain ⟨e1, e2, e3⟩ := e
    rcases Nat.lt_trichotomy j i with h4 | h4 | h4
    · have h5 := ((pd_facts hp).2 i hi).2.2 j h4 e1
      rcases Nat.lt_trichotomy j k with h6 | h6 | h6
      · have h7 := ((pd_facts hp).2 k (by omega)).2.2 j h6 (e1.trans h2.symm)
        have := pk.2
        omega
      · subst h6; omega
      · exact h3 j h6 h4 e1
    · subst h4; omega
    · have h5 := ((pd_facts hp).2 j hj).2.2 i h4 e1.symm
      have := pi.2
      omega
  have hr := rs_ge (c := c) (b := b) (s := c i) (m := a i - 1) (j := k) (k := n) h2 (by omega) (by omega)
  have hneg : decide (rsF c b (c i) (a i - 1) n < 0) = false := decide_eq_false (by have := pk.2; omega)
  obtain ⟨r1, r2⟩ := rest_yes hask hany hneg
  exact ⟨r2, by rw [r1]; omega⟩
end

end Go.Proofs.Ythchfnkljmoenaa

/-
  The frame of a law's statement: where the call returns true and nothing below the old heap has turned, the row holds.-/
namespace Go.Proofs.Ythchfnkljmoenaa
set_option linter.unusedVariables false
set_option linter.unusedSimpArgs false
open Go.ChangeShapes Go.WideShapes Go.ChangeAt Go.RowKit Go.Joins Go.Deep

theorem Try.own : ownKnob Try.prog.godebug = none := by kernel_rfl
theorem Try.laidOut : laidOutB Try.prog = true := by kernel_rfl
theorem Try.rowed : mapsRowed Try.prog = true := by kernel_rfl
theorem Try.whole : (Try.prog.stopsHeard && Try.prog.mayEnter && (!Try.prog.liftsFinal) && (Try.prog.make == some Make.cut)) = true := by kernel_rfl
theorem Try.heard : Try.prog.stopsHeard = true := by have h := Try.whole; simp only [Bool.and_eq_true] at h; exact h.1.1.1
theorem Try.enters : Try.prog.mayEnter = true := by have h := Try.whole; simp only [Bool.and_eq_true] at h; exact h.1.1.2
theorem Try.lifts : Try.prog.liftsFinal = false := by have h := Try.whole; simp only [Bool.and_eq_true, Bool.not_eq_true'] at h; exact h.1.2
theorem Try.made : Try.prog.make = some Make.cut := by have h := Try.whole; simp only [Bool.and_eq_true, beq_iff_eq] at h; exact h.2

section
variable {H : Type} {enc : TypeId × Value → H} {P : Program}
theorem trodAll_below (hl : laidOutB P = true) {W W' : World} (hb : Below W.heap.size W W') : ∀ {ts : List TypeId} {vs : List Value} {ds : List (DataW H)} {ps : List MemPlace},
    ts.all (fun t => P.readableRec t && decide (t < P.types.size)) = true → DataW.TrodAll enc P W 0 (fun _ => true) true ts vs ds ps → (∀ x ∈ ps, x.block < W.heap.size) →
    DataW.TrodAll enc P W' 0 (fun b => decide (b < W.heap.size)) true ts vs ds ps
  | [], [], [], _, _, h, _ => h
  | t :: ts, v :: vs, d :: ds, ps, hr, h, hlt => by
    obtain ⟨p, q, h1, h2, rfl⟩ := h
    simp only [List.all_cons, Bool.and_eq_true] at hr
    exact ⟨p, q, Below.trod hl hr.1.1 (of_decide_eq_true hr.1.2) h1 hb (fun x hx => hlt x (List.mem_append.2 (.inl hx))), trodAll_below hl hb hr.2 h2 (fun x hx => hlt x (List.mem_append.2 (.inr hx))), rfl⟩
  | [], _ :: _, _, _, _, h, _ => by cases h
  | [], [], _ :: _, _, _, h, _ => by cases h
  | _ :: _, [], _, _, _, h, _ => by cases h
  | _ :: _, _ :: _, [], _, _, h, _ => by cases h

theorem law_post {f : Func} {s : ChangeSpec} {W W' : World} {args : Array Value} {ds : List (DataW H)} {before : List MemPlace} {T : TypeId}
    (hl : laidOutB P = true) (hvars : s.vars = []) (hr : f.params.toList.all (fun t => P.readableRec t && decide (t < P.types.size)) = true)
    (hT : f.resultTypes = #[T]) (hTb : P.underlying T = some .bool)
    (hW : DataW.Whole enc P f.params.toList s.vars false W args.toList ds [] before)
    (hs : s.fn H (ds ++ []) = { results := [.lit (.bool true)], args := ds }) (hb : Below W.heap.size W W') : s.post enc P f false true false false W args (.bool true) W' := by
  have hW' := hW
  obtain ⟨p, q, hA, hV, rfl, _, _⟩ := hW
  have hlt : ∀ x ∈ p ++ q, x.block < W.heap.size := fun x hx => by simpa using hW'.lt x hx
  rw [hvars] at hV
  have hq : q = [] := by simpa [DataW.TrodVars] using hV
  subst hq
  refine ⟨ds, [], p ++ [], [], p, [], hW', ?_, ?_, ?_, ?_, fun h => by cases h⟩
  · rw [hT, hs]
    exact trodAll_mk1 (shut_bool hTb true)
  · rw [hs]
    exact trodAll_below hl hb hr hA (fun x hx => hlt x (by simpa using hx))
  · rw [hs, hvars]
    rfl
  · exact hb.frame _
end

end Go.Proofs.Ythchfnkljmoenaa

/-
  Arguments that are slices, opened: the value, and the cells of its elements ('SlA').-/
namespace Go.Proofs.Ythchfnkljmoenaa
set_option linter.unusedVariables false
set_option linter.unusedSimpArgs false
open Go.ChangeShapes Go.WideShapes Go.ChangeAt Go.RowKit Go.Joins Go.Deep

section
variable {H : Type} {enc : TypeId × Value → H} {P : Program} {w : World} {base : Nat} {spare : Nat → Bool} {held : Bool}
theorem cell_lt {a : Addr} {v : Value} (h : w.cell? a = some v) : a.block < w.heap.size ∧ a.spot = none := by
  unfold World.cell? at h
  split at h
  · rename_i c e f hh
    refine ⟨?_, ?_⟩
    · rcases Nat.lt_or_ge a.block w.heap.size with h1 | h1
      · exact h1
      · rw [Array.getElem?_eq_none h1] at hh; cases hh
    · split at h
      · cases h
      · rename_i hs; simpa using hs
  · cases h
/-- A slice whose elements are of whatever type of sz cells, opened at every cell. -/
theorem open_cellsT {t e : TypeId} {d : DataW H} {ps : List MemPlace} {v : Value} {sz fuel : Nat} (ht : P.underlying t = some (.slice e)) (hC : P.cellsOf e = sz) (hsz : 0 < sz)
    (hf' : DataW.trod enc P w 0 spare held fuel t [v] = some (d, ps)) :
    ∃ (A : Option Addr) (n cap : Nat) (V : Nat → Nat → Value), v = .slice A n cap ∧ n ≤ cap ∧ cap ≤ maxLen ∧ SlA w 0 w.heap.size sz A n V ∧
      ∀ i, i < n → ∃ cs' k y, cs'.length = sz ∧ (∀ j, j < sz → cs'[j]? = some (V i j)) ∧ DataW.trod enc P w 0 spare held k e cs' = some y := by
  rcases open_slice ht hf' with ⟨hcs, _⟩ | ⟨a, n, cap, m, k, D, Pl, hcs, hb, hl, hm, hmm, _, hx⟩
  · simp only [List.cons.injEq, and_true] at hcs
    subst hcs
    exact ⟨none, 0, 0, fun _ _ => .bool false, rfl, Nat.le_refl _, Nat.zero_le _, fun h => absurd h (Nat.lt_irrefl _), fun i hi => absurd hi (Nat.not_lt_zero _)⟩
  · simp only [List.cons.injEq, and_true] at hcs
    subst hcs
    have hm' : n ≤ m := by rw [hmm]; split <;> omega
    have hx' : ∀ i, i < n → ∃ cs', w.cells? 0 (a.add (i * sz)) sz = some cs' ∧ DataW.trod enc P w 0 spare held k e cs' = some (D i, Pl i) := fun i hi => by
      have := hx i (by omega)
      rwa [hC] at this
    obtain ⟨C, hCs⟩ := choose_lt (α := List Value) hx'
    refine ⟨some a, n, cap, fun i j => (C i).getD j (.bool false), rfl, hl, hm, fun hn => ?_, fun i hi => ?_⟩
    · have at_ : ∀ i j, i < n → j < sz → w.cell? (a.add (i * sz + j)) = some ((C i).getD j (.bool false)) := fun i j hi hj => by
        obtain ⟨_, hlen, hat⟩ := World.cells?_some (hCs i hi).1
        have := hat j hj
        rw [Go.Deep.add_add] at this
        rw [this, List.getD, List.getElem?_eq_getElem (by omega)]
        rfl
      have h00 := cell_lt (at_ 0 0 hn hsz)
      have hspot : a.spot = none := by
        have h1 := at_ 0 0 hn hsz
        have : a.add (0 * sz + 0) = a := by simp [Addr.add]
        rw [this] at h1
        exact (cell_lt h1).2
      have hblk : a.block < w.heap.size := by
        have h1 := at_ 0 0 hn hsz
        have : a.add (0 * sz + 0) = a := by simp [Addr.add]
        rw [this] at h1
        exact (cell_lt h1).1
      obtain ⟨b, off, sp⟩ := a
      simp only at hspot hblk
      subst hspot
      refine ⟨b, off, rfl, Nat.zero_le _, hblk, fun i j hi hj => ?_⟩
      have := at_ i j hi hj
      unfold Addr.add at this
      split at this
      · rename_i h0
        rw [show off + i * sz + j = off by omega]
        exact this
      · rw [show off + i * sz + j = off + (i * sz + j) by omega]
        exact this
    · obtain ⟨h1, h2⟩ := hCs i hi
      obtain ⟨_, hlen, _⟩ := World.cells?_some h1
      exact ⟨C i, k, _, hlen, fun j hj => by simp [List.getD, List.getElem?_eq_getElem (show j < (C i).length by omega)], h2⟩
theorem open_cells {t e : TypeId} {d : DataW H} {ps : List MemPlace} {v : Value} {r : Reach} {b0 sz : Nat} (ht : P.underlying t = some (.slice e)) (hC : P.cellsOf e = sz) (hsz : 0 < sz)
    (hv : Value.okWide P w r b0 t v) (h : DataW.Trod enc P w 0 spare held t v d ps) :
    ∃ (A : Option Addr) (n cap : Nat) (V : Nat → Nat → Value), v = .slice A n cap ∧ n ≤ cap ∧ cap ≤ maxLen ∧ SlA w 0 w.heap.size sz A n V ∧
      ∀ i, i < n → ∃ cs' k y, cs'.length = sz ∧ (∀ j, j < sz → cs'[j]? = some (V i j)) ∧ DataW.trod enc P w 0 spare held k e cs' = some y := by
  obtain ⟨A, n, cap, rfl⟩ := okWide_slice ht hv
  obtain ⟨fuel, hf⟩ := h
  exact open_cellsT ht hC hsz (show DataW.trod enc P w 0 spare held fuel t [.slice A n cap] = some (d, ps) from hf)
theorem take_one {l : List Value} {j : Nat} {v : Value} (h : l[j]? = some v) : (l.drop j).take 1 = [v] := by
  obtain ⟨hj, rfl⟩ := List.getElem?_eq_some_iff.1 h
  rw [List.drop_eq_getElem_cons hj]
  rfl
/-- One field of an element that is a struct of one-cell fields. -/
theorem field_of {e : TypeId} {fs : Array Field} {k : Nat} {cs : List Value} {y : DataW H × List MemPlace} (he : P.underlying e = some (.struct fs)) (hone : oneCellFields P fs = true) (h : DataW.trod enc P w base spare held k e cs = some y)
    {j : Nat} {f : Field} {v : Value} (hj : fs[j]? = some f) (hv : cs[j]? = some v) : ∃ n z, DataW.trod enc P w base spare held n f.type [v] = some z := by
  obtain ⟨ys, n', hn', hy, hlen, hyl, hf⟩ := DataW.trod_struct he h
  obtain ⟨ho, hk⟩ := hone_of hone j f hj
  have h1 := hf j f hj
  rw [ho, hk, take_one hv] at h1
  have hjl : j < ys.length := by rw [hyl]; exact (Array.getElem?_eq_some_iff.1 hj).1
  exact ⟨n', ys[j], by rw [h1]; exact List.getElem?_eq_getElem hjl⟩
end
theorem int_cell {H : Type} {enc : TypeId × Value → H} {P : Program} {w : World} {base : Nat} {spare : Nat → Bool} {held : Bool} {t : TypeId} {n : Nat} {v : Value} {z : DataW H × List MemPlace} (ht : P.underlying t = some (.int .i64)) (h : DataW.trod enc P w base spare held n t [v] = some z) :
    v = .int .i64 (intOf v) ∧ (Lit.int .i64 (intOf v)).wf = true := by
  obtain ⟨x, h1, _, h3⟩ := DataW.trod_int ht h
  simp only [List.cons.injEq, and_true] at h1
  subst h1
  exact ⟨rfl, h3⟩
def strOf : Value → ByteArray | .string s => s | _ => ByteArray.empty
theorem str_cell {H : Type} {enc : TypeId × Value → H} {P : Program} {w : World} {base : Nat} {spare : Nat → Bool} {held : Bool} {t : TypeId} {n : Nat} {v : Value} {z : DataW H × List MemPlace} (ht : P.underlying t = some .string) (h : DataW.trod enc P w base spare held n t [v] = some z) :
    v = .string (strOf v) ∧ (strOf v).size ≤ maxLen := by
  obtain ⟨x, h1, _, h3⟩ := DataW.trod_string ht h
  simp only [List.cons.injEq, and_true] at h1
  subst h1
  exact ⟨rfl, h3⟩
theorem SlA.congr {w : World} {lo hi sz n : Nat} {A : Option Addr} {c c' : Nat → Nat → Value} (h : SlA w lo hi sz A n c) (hc : ∀ i j, i < n → j < sz → c i j = c' i j) : SlA w lo hi sz A n c' := fun hn => by
  obtain ⟨b, off, h1, h2, h3, h4⟩ := h hn
  exact ⟨b, off, h1, h2, h3, fun i j hi hj => (h4 i j hi hj).trans (by rw [hc i j hi hj])⟩

end Go.Proofs.Ythchfnkljmoenaa

/-
  An argument that is a list of bytes, opened.-/
namespace Go.Proofs.Ythchfnkljmoenaa
set_option linter.unusedVariables false
set_option linter.unusedSimpArgs false
open Go.ChangeShapes Go.WideShapes Go.ChangeAt Go.RowKit Go.Joins Go.Deep

theorem byte_cell {H : Type} {enc : TypeId × Value → H} {P : Program} {w : World} {base : Nat} {spare : Nat → Bool} {held : Bool} {t : TypeId} {n : Nat} {v : Value} {z : DataW H × List MemPlace} (ht : P.underlying t = some (.int .u8)) (h : DataW.trod enc P w base spare held n t [v] = some z) :
    v = .int .u8 (intOf v) ∧ 0 ≤ intOf v ∧ intOf v ≤ 255 := by
  obtain ⟨x, h1, _, h3⟩ := DataW.trod_int ht h
  simp only [List.cons.injEq, and_true] at h1
  subst h1
  refine ⟨rfl, ?_⟩
  have h4 : (Lit.int .u8 x).wf = true := h3
  simp [Lit.wf, IntKind.min, IntKind.max, IntKind.signed, IntKind.bits] at h4
  show 0 ≤ x ∧ x ≤ 255
  omega
theorem Try.cells5 : Try.prog.cellsOf 5 = 1 := by kernel_rfl
set_option maxRecDepth 100000 in
theorem openByteT {H : Type} {enc : TypeId × Value → H} {W : World} {spare : Nat → Bool} {held : Bool} {v : Value} {d : DataW H} {ps : List MemPlace} {fuel : Nat}
    (h : DataW.trod enc Try.prog W 0 spare held fuel 22 [v] = some (d, ps)) :
    ∃ (A : Option Addr) (n cap : Nat), v = .slice A n cap ∧ n ≤ cap ∧ cap ≤ maxLen ∧ Code W (.slice A n cap) := by
  obtain ⟨A, n, cap, V, rfl, h1, h2, h3, h4⟩ := open_cellsT Try.underlying22 Try.cells5 (by omega) h
  have key : ∀ i, i < n → V i 0 = .int .u8 (intOf (V i 0)) ∧ 0 ≤ intOf (V i 0) ∧ intOf (V i 0) ≤ 255 := fun i hi => by
    obtain ⟨cs', k, y, hl, hc, hy⟩ := h4 i hi
    have hcs : cs' = [V i 0] := by
      match cs', hl with
      | [x], _ => have := hc 0 (by omega); simp at this; rw [this]
    rw [hcs] at hy
    exact byte_cell Try.underlying5 hy
  refine ⟨A, n, cap, rfl, h1, h2, ⟨n, W.heap.size, fun i => intOf (V i 0), (h3.congr (c' := bC fun i => intOf (V i 0)) fun i j hi hj => ?_).shut h1, Nat.le_refl _, by unfold maxLen at h2; omega, fun i hi => (key i hi).2⟩⟩
  obtain rfl : j = 0 := by omega
  exact (key i hi).1
set_option maxRecDepth 100000 in
theorem openByte {H : Type} {enc : TypeId × Value → H} {W : World} {spare : Nat → Bool} {held : Bool} {v : Value} {d : DataW H} {ps : List MemPlace} {r : Reach} {b0 : Nat}
    (hv : Value.okWide Try.prog W r b0 22 v) (h : DataW.Trod enc Try.prog W 0 spare held 22 v d ps) :
    ∃ (A : Option Addr) (n cap : Nat), v = .slice A n cap ∧ n ≤ cap ∧ cap ≤ maxLen ∧ Code W (.slice A n cap) := by
  obtain ⟨A, n, cap, rfl⟩ := okWide_slice Try.underlying22 hv
  obtain ⟨fuel, hf⟩ := h
  exact openByteT (show DataW.trod enc Try.prog W 0 spare held fuel 22 [.slice A n cap] = some (d, ps) from hf)

end Go.Proofs.Ythchfnkljmoenaa

/-
  Walks for FnWorkTimes: the law's own comparisons; words for its facts.-/
namespace Go.Proofs.Ythchfnkljmoenaa
set_option linter.unusedVariables false
set_option linter.unusedSimpArgs false
open Go.RowKit

theorem Code.bel {w w' : World} {v : Value} (h : Code w v) (hb : Below w.heap.size w w') : Code w' v := h.below hb (Nat.le_refl _)
/-- A slice that lies somewhere. -/
def SlW (w : World) (sz : Nat) (v : Value) (n : Nat) (c : Nat → Nat → Value) : Prop := Sl w 0 w.heap.size sz v n c
theorem SlW.bel {w w' : World} {sz n : Nat} {v : Value} {c : Nat → Nat → Value} (h : SlW w sz v n c) (hb : Below w.heap.size w w') : SlW w' sz v n c :=
  (Sl.below (B := w.heap.size) h hb (Nat.le_refl _)).mono (Nat.le_refl _) hb.size
theorem SlW.of {w : World} {lo hi sz n : Nat} {v : Value} {c : Nat → Nat → Value} (h : Sl w lo hi sz v n c) (hh : hi ≤ w.heap.size) : SlW w sz v n c := h.mono (Nat.zero_le _) hh
/-- What has turned since the call's start is above. -/
def BelW (w w' : World) : Prop := Below w.heap.size w w'
theorem BelW.bel {w w' w'' : World} (h : BelW w w') (hb : Below w'.heap.size w' w'') : BelW w w'' := Below.trans h (hb.mono (Below.size h))
section
variable {w : World} {A : Option Addr} {N c b o : Nat} {f g : Nat → Int} {F : Nat → ByteArray} {a d : Nat → Int}
theorem SlW.form {sz : Nat} {C : Nat → Nat → Value} (h : SlW w sz (.slice A N c) N C) (hN : 0 < N) : ∃ b o, A = some ⟨b, o, none⟩ := by
  obtain ⟨A', cap', e, _, hA⟩ := Sl.open_ h
  injection e with e1 e2 e3
  subst e1
  obtain ⟨b, o, hb, _⟩ := hA hN
  exact ⟨b, o, hb⟩
theorem SlW.at {sz : Nat} {C : Nat → Nat → Value} (h : SlW w sz (.slice (some ⟨b, o, none⟩) N c) N C) {k j : Nat} (hk : k < N) (hj : j < sz) : w.cell? ⟨b, o + k * sz + j, none⟩ = some (C k j) ∧ b < w.heap.size := by
  obtain ⟨A', cap', e, _, hA⟩ := Sl.open_ h
  injection e with e1 e2 e3
  subst e1
  obtain ⟨b', o', hb, _, h2, h3⟩ := hA (by omega)
  injection hb with hb
  injection hb with h4 h5
  subst h4 h5
  exact ⟨h3 k j hk hj, h2⟩
theorem SlW.p3 (h : SlW w 3 (.slice (some ⟨b, o, none⟩) N c) N (siiC F a d)) {k : Nat} (hk : k < N) : w.cell? ⟨b, o + k * 3, none⟩ = some (.string (F k)) ∧ w.cell? ⟨b, o + k * 3 + 1, none⟩ = some (.int .i64 (a k)) ∧ w.cell? ⟨b, o + k * 3 + 2, none⟩ = some (.int .i64 (d k)) ∧ b < w.heap.size :=
  ⟨by simpa [siiC] using (h.at hk (j := 0) (by omega)).1, by simpa [siiC] using (h.at hk (j := 1) (by omega)).1, by simpa [siiC] using (h.at hk (j := 2) (by omega)).1, (h.at hk (j := 0) (by omega)).2⟩
theorem SlW.i1 (h : SlW w 1 (.slice (some ⟨b, o, none⟩) N c) N (iC f)) {k : Nat} (hk : k < N) : w.cell? ⟨b, o + k, none⟩ = some (.int .i64 (f k)) ∧ b < w.heap.size :=
  ⟨by simpa [iC] using (h.at hk (j := 0) (by omega)).1, (h.at hk (j := 0) (by omega)).2⟩
theorem SlW.s1 (h : SlW w 1 (.slice (some ⟨b, o, none⟩) N c) N (sC F)) {k : Nat} (hk : k < N) : w.cell? ⟨b, o + k, none⟩ = some (.string (F k)) ∧ b < w.heap.size :=
  ⟨by simpa [sC] using (h.at hk (j := 0) (by omega)).1, (h.at hk (j := 0) (by omega)).2⟩
theorem SlW.s0 (h : SlW w 1 (.slice (some ⟨b, o, none⟩) N c) N (sC F)) (hk : 0 < N) : w.cell? ⟨b, o, none⟩ = some (.string (F 0)) ∧ b < w.heap.size :=
  ⟨by simpa [sC] using (h.at hk (j := 0) (by omega)).1, (h.at hk (j := 0) (by omega)).2⟩
end
set_option maxRecDepth 100000 in
set_option maxHeartbeats 1600000 in
theorem pSameTexts_same (F : Nat → ByteArray) (N lo hi lo' hi' : Nat) (v u : Value) (w : World) (hv : Sl w lo hi 1 v N (sC F)) (hu : Sl w lo' hi' 1 u N (sC F)) (hhi : hi ≤ w.heap.size) (hhi' : hi' ≤ w.heap.size) (hN : N ≤ 4611686018427387904) :
    Calls Try.prog 12 #[v, u] w fun e w' => e = .returned (.bool true) ∧ Below w.heap.size w w' := by
  obtain ⟨A, cap, rfl, hcap, hA⟩ := hv.open_
  obtain ⟨A', cap', rfl, hcap', hA'⟩ := hu.open_
  clear hv hu
  go_enter Try.func12, Try.ntmps12
  go_wp2_with fail
  go_loopw [13] (fun i wr => ∃ k : Nat, k ≤ N ∧ i = .int .i64 k ∧ Below w.heap.size w wr) (fun i _ => N - (intOf i).toNat)
  case atStart => exact ⟨0, by omega, rfl, Below.refl _ _⟩
  case round =>
    obtain ⟨k, hk, rfl, hb⟩ := hrel
    have hzr := hb.size
    by_cases hkn : k < N
    · obtain ⟨blk, off, rfl, h1, h2, h3⟩ := (hA.below hb (by omega)) (by omega)
      obtain ⟨blk', off', rfl, h1', h2', h3'⟩ := (hA'.below hb (by omega)) (by omega)
      have c0 : wr.cell? ⟨blk, off + k , none⟩ = some (.string (F k)) := by simpa [sC] using h3 k 0 hkn (by omega)
      have c0' : wr.cell? ⟨blk', off' + k , none⟩ = some (.string (F k)) := by simpa [sC] using h3' k 0 hkn (by omega)
      clear h3 h3' hA hA'
      have l3 : blk < wr.heap.size := by omega
      have l4 : blk' < wr.heap.size := by omega
      go_wp2_with fail
      (refine wp_region_below_lit (by kernel_rfl) (by kernel_rfl) ?_; (repeat (first | go_big_quiet_step (fail) | quiet_step (fail))); refine wpQuiet_nil ?_; intro w2 hb2; have hz2 := hb2.size; (try (simp at hz2)); obtain ⟨hcw2, hfw2⟩ := bcell hb2; (try (have hy2 : w.heap.size < w2.heap.size := by omega)); (try (have hyy2 : w.heap.size + 1 < w2.heap.size := by omega)))
      go_wp2
      go_roundw
      case rel => exact ⟨k + 1, by omega, by go_num, (by repeat (first | (with_reducible exact Below.refl _ _) | (with_reducible refine below_ov ?_ ?_) | (with_reducible refine Below.setCell ?_ ?_ _) | (with_reducible refine Below.alloc ?_ ?_ _) | (with_reducible refine Below.drew ?_) | (with_reducible refine below_drewN ?_ _) | (refine Below.trans ?_ (Below.mono ‹Below _ _ _› (by first | omega | (simp; done) | (simp; omega)))) | exact Below.refl _ _ | omega | (focus (simp; done)) | (focus (simp; omega))))⟩
      case measure => simp [intOf]; omega
    · obtain rfl : k = N := by omega
      go_wp2_with fail
      go_ret
      exact ⟨rfl, hb⟩
set_option maxRecDepth 100000 in
set_option maxHeartbeats 1600000 in
theorem sameInts_same (o : Nat → Int) (N lo hi lo' hi' : Nat) (v u : Value) (w : World) (hv : Sl w lo hi 1 v N (iC o)) (hu : Sl w lo' hi' 1 u N (iC o)) (hhi : hi ≤ w.heap.size) (hhi' : hi' ≤ w.heap.size) (hN : N ≤ 1048576) :
    Calls Try.prog 28 #[v, u] w fun e w' => e = .returned (.bool true) ∧ Below w.heap.size w w' := by
  obtain ⟨A, cap, rfl, hcap, hA⟩ := hv.open_
  obtain ⟨A', cap', rfl, hcap', hA'⟩ := hu.open_
  clear hv hu
  go_enter Try.func28, Try.ntmps28
  go_wp2_with fail
  go_loopw [13] (fun i wr => ∃ k : Nat, k ≤ N ∧ i = .int .i64 k ∧ Below w.heap.size w wr) (fun i _ => N - (intOf i).toNat)
  case atStart => exact ⟨0, by omega, rfl, Below.refl _ _⟩
  case round =>
    obtain ⟨k, hk, rfl, hb⟩ := hrel
    have hzr := hb.size
    by_cases hkn : k < N
    · obtain ⟨blk, off, rfl, h1, h2, h3⟩ := (hA.below hb (by omega)) (by omega)
      obtain ⟨blk', off', rfl, h1', h2', h3'⟩ := (hA'.below hb (by omega)) (by omega)
      have c0 : wr.cell? ⟨blk, off + k, none⟩ = some (.int .i64 (o k)) := by simpa [iC] using h3 k 0 hkn (by omega)
      have c1 : wr.cell? ⟨blk', off' + k, none⟩ = some (.int .i64 (o k)) := by simpa [iC] using h3' k 0 hkn (by omega)
      clear h3 h3' hA hA'
      have l3 : blk < wr.heap.size := by omega
      have l4 : blk' < wr.heap.size := by omega
      go_wp2_with fail
      (refine wp_region_below_lit (by kernel_rfl) (by kernel_rfl) ?_; (repeat (first | go_big_quiet_step (fail) | quiet_step (fail))); refine wpQuiet_nil ?_; intro w2 hb2; have hz2 := hb2.size; (try (simp at hz2)); obtain ⟨hcw2, hfw2⟩ := bcell hb2; (try (have hy2 : w.heap.size < w2.heap.size := by omega)); (try (have hyy2 : w.heap.size + 1 < w2.heap.size := by omega)))
      go_wp2
      go_roundw
      case rel => exact ⟨k + 1, by omega, by go_num, (by repeat (first | (with_reducible exact Below.refl _ _) | (with_reducible refine below_ov ?_ ?_) | (with_reducible refine Below.setCell ?_ ?_ _) | (with_reducible refine Below.alloc ?_ ?_ _) | (with_reducible refine Below.drew ?_) | (with_reducible refine below_drewN ?_ _) | (refine Below.trans ?_ (Below.mono ‹Below _ _ _› (by first | omega | (simp; done) | (simp; omega)))) | exact Below.refl _ _ | omega | (focus (simp; done)) | (focus (simp; omega))))⟩
      case measure => simp [intOf]; omega
    · obtain rfl : k = N := by omega
      go_wp2_with fail
      go_ret
      exact ⟨rfl, hb⟩
set_option maxRecDepth 100000 in
set_option maxHeartbeats 1600000 in
theorem pHas_any (F : Nat → ByteArray) (s : ByteArray) (N lo hi : Nat) (v : Value) (w : World) (hv : Sl w lo hi 1 v N (sC F)) (hhi : hi ≤ w.heap.size) (hN : N ≤ 1048576) :
    Calls Try.prog 13 #[v, .string s] w fun e w' => e = .returned (.bool (hasT F s N)) ∧ Below w.heap.size w w' := by
  obtain ⟨A, cap, rfl, hcap, hA⟩ := hv.open_
  clear hv
  go_enter Try.func13, Try.ntmps13
  go_wp2_with fail
  go_loopw [9] (fun i wr => ∃ k : Nat, k ≤ N ∧ i = .int .i64 k ∧ Hid (∀ j, j < k → decide (F j = s) = false) ∧ Below w.heap.size w wr) (fun i _ => N - (intOf i).toNat)
  case atStart => exact ⟨0, by omega, rfl, (fun j hj => absurd hj (Nat.not_lt_zero _)), Below.refl _ _⟩
  case round =>
    obtain ⟨k, hk, rfl, hno, hb⟩ := hrel
    have hzr := hb.size
    by_cases hkn : k < N
    · obtain ⟨blk, off, rfl, h1, h2, h3⟩ := (hA.below hb (by omega)) (by omega)
      have c0 : wr.cell? ⟨blk, off + k , none⟩ = some (.string (F k)) := by simpa [sC] using h3 k 0 hkn (by omega)
      have l3 : blk < wr.heap.size := by omega
      clear h3 hA
      cases hd : decide (F k = s) with
      | true =>
        have hX : Hid (hasT F s N = true) := by show _ = _; rw [hasT, fst_iff]; exact ⟨k, hkn, hd⟩
        have hq : ((F k).toList == s.toList) = true := by rw [str_beq, hd]
        clear hd
        go_wp2_with fail
        go_ret
        exact ⟨ret_bool hX.out.symm, hb⟩
      | false =>
        have hno2 : Hid (∀ j, j < k + 1 → decide (F j = s) = false) := fun j hj => by
          rcases Nat.lt_or_ge j k with h | h
          · exact hno.out j h
          · obtain rfl : j = k := by omega
            exact hd
        have hq : ((F k).toList == s.toList) = false := by rw [str_beq, hd]
        clear hd
        go_wp2_with fail
        go_roundw
        case rel => exact ⟨k + 1, by omega, by go_num, hno2, hb⟩
        case measure => simp [intOf]; omega
    · have hX : Hid (hasT F s N = false) := by
        show _ = _
        rw [Bool.eq_false_iff, ne_eq, hasT, fst_iff]
        rintro ⟨j, hj, e⟩
        rw [hno.out j (by omega)] at e
        cases e
      go_wp2_with fail
      go_ret
      exact ⟨ret_bool hX.out.symm, hb⟩

end Go.Proofs.Ythchfnkljmoenaa

/-
  The library's Sort and Compact of texts, by the kit's contracts.-/
namespace Go.Proofs
open Go.RowKit Go.Shelf Go.Sort
shelf_lay Lays.n190 Nm 190 at Try as Ythchfnkljmoenaa.laysSort
shelf_lay Lays.n194 Nm 194 at Try as Ythchfnkljmoenaa.laysCompact
end Go.Proofs
namespace Go.Proofs.Ythchfnkljmoenaa
set_option linter.unusedVariables false
set_option linter.unusedSimpArgs false
open Go.RowKit Go.Shelf Go.Sort
theorem sort_c (blk off cap : Nat) (zs : List (List UInt8)) (w : World) (hH : Holds encStr w blk off zs.toArray) (hblk : blk < w.heap.size) (hsz : zs.length < 4611686018427387904) :
    Calls Try.prog 62 #[.slice (some ⟨blk, off, none⟩) zs.length cap] w fun e w' =>
      e = .returned (.tuple #[]) ∧ ∃ n os, w' = grow (putRow encStr (Sort.ahead w n) blk off (zs.mergeSort fun x y => decide (x ≤ y)).toArray) os :=
  calls_of_every_depth fun D => AnyS.slices_Sort_string_alone Ythchfnkljmoenaa.laysSort D blk off cap zs w hH hblk hsz
theorem compact_c (blk off cap : Nat) (zs : List (List UInt8)) (w : World) (hH : Holds encStr w blk off zs.toArray) (hsz : zs.length ≤ 9223372036854775807) (hcap : zs.length ≤ cap) :
    Calls Try.prog 63 #[.slice (some ⟨blk, off, none⟩) zs.length cap] w fun e w' => e = .returned (.slice (some ⟨blk, off, none⟩) (Lib.compact zs).length cap) ∧ ∃ q, w' = putRow encStr (Sort.ahead w q) blk off (Lib.compact zs ++ List.replicate (zs.length - (Lib.compact zs).length) []).toArray :=
  calls_of_every_depth fun D => AnyS.slices_Compact_string_in Ythchfnkljmoenaa.laysCompact D blk off cap zs w hH hsz hcap
theorem sort_n (a : Option Addr) (cap : Nat) (w : World) :
    Calls Try.prog 62 #[.slice a 0 cap] w fun e w' => e = .returned (.tuple #[]) ∧ w' = w :=
  calls_of_every_depth fun D => AnyS.slices_Sort_string_none_alone Ythchfnkljmoenaa.laysSort D a cap w
theorem compact_n (a : Option Addr) (cap : Nat) (w : World) :
    Calls Try.prog 63 #[.slice a 0 cap] w fun e w' => e = .returned (.slice a 0 cap) ∧ w' = w :=
  calls_of_every_depth fun D => AnyS.slices_Compact_string_empty_in Ythchfnkljmoenaa.laysCompact D a cap w

end Go.Proofs.Ythchfnkljmoenaa

/-
  The library's Sort and Compact at a row of the call's own.-/
namespace Go.Proofs.Ythchfnkljmoenaa
set_option linter.unusedVariables false
set_option linter.unusedSimpArgs false
open Go.RowKit Go.Shelf Go.Sort

theorem sort_row {L : List (List UInt8)} {base : Nat} {v : Value} {w : World} (h : TRow w base v L) (hl : L.length ≤ 64) :
    Calls Try.prog 62 #[v] w fun e w' => e = .returned (.tuple #[]) ∧ TRow w' base v (L.mergeSort fun x y => decide (x ≤ y)) ∧ Below base w w' := by
  have hms : (L.mergeSort fun x y => decide (x ≤ y)).length = L.length := List.length_mergeSort L
  rcases h.2 with ⟨h0, h1⟩ | ⟨g, cap, cur, rfl, hbg, hg, hnc, hcm, hcs, htake⟩
  · have hl0 : L = [] := List.eq_nil_of_length_eq_zero h1
    subst hl0
    subst h0
    exact (sort_n none 0 w).mono fun e w' ⟨h2, h3⟩ => ⟨h2, by subst h3; simpa using h, by subst h3; exact Below.refl _ _⟩
  · obtain ⟨g', cap', e1, hbg', hgl, _, _, _, hH⟩ := Lib.holds_of_ownsRow (enc := encStr) h (by simp)
    injection e1 with e1 e2 e3
    injection e1 with e1
    injection e1 with e1 _ _
    subst e1 e3
    refine (sort_c g 0 cap L w hH hgl (by omega)).mono fun e w' ⟨h2, n, os, h3⟩ => ⟨h2, ?_, ?_⟩
    · subst h3
      have := ownsRow_sorted (n := n) (os := os) (ts := L.mergeSort fun x y => decide (x ≤ y)) (ss := L) hms hbg hg hnc hcm hcs
      rw [TRow, hms]
      exact this
    · subst h3
      exact (Below.refl base w).grown (grownBy_sorted _) (Nat.le_trans hbg' (Nat.le_of_lt hgl)) (fun j hj => by cases hj; exact hbg)
theorem compact_row {L : List (List UInt8)} {base : Nat} {v : Value} {w : World} (h : TRow w base v L) (hl : L.length ≤ 64) :
    Calls Try.prog 63 #[v] w fun e w' => ∃ v', e = .returned v' ∧ TRow w' base v' (Lib.compact L) ∧ Below base w w' := by
  have hle := Lib.compact_length_le L
  rcases h.2 with ⟨h0, h1⟩ | ⟨g, cap, cur, rfl, hbg, hg, hnc, hcm, hcs, htake⟩
  · have hl0 : L = [] := List.eq_nil_of_length_eq_zero h1
    subst hl0
    subst h0
    refine (compact_n none 0 w).mono fun e w' ⟨h2, h3⟩ => ⟨_, h2, ?_, by subst h3; exact Below.refl _ _⟩
    subst h3
    exact World.ownsRow_nil _ _ _ _
  · obtain ⟨g', cap', e1, hbg', hgl, _, _, _, hH⟩ := Lib.holds_of_ownsRow (enc := encStr) h (by simp)
    injection e1 with e1 e2 e3
    injection e1 with e1
    injection e1 with e1 _ _
    subst e1 e3
    refine (compact_c g 0 cap L w hH (by omega) hnc).mono fun e w' ⟨h2, q, h3⟩ => ⟨_, h2, ?_, ?_⟩
    · subst h3
      have hc := Lib.ownsRow_putRow (q := q) (k := (Lib.compact L).length) (ys := Lib.compact L ++ List.replicate (L.length - (Lib.compact L).length) []) h (by simp; omega) (by omega)
      rw [List.take_left] at hc
      exact hc
    · subst h3
      exact Lib.below_putRow (Below.refl base w) hbg

end Go.Proofs.Ythchfnkljmoenaa
