/-
  Texts of this proof, one behind the other (part 7).
-/
import Derived.Test.YtnfhgnibjebmlaaQ6
import Derived.Still
import Derived.BigRegion
import Derived.Deep.Heap
import Derived.Lib.SliceRun
/-
  Regions that draw their order, in which operations that only look stand beside operations that write, whose order is forced: one walk serves every order.-/
namespace Go.Proofs.Ytnfhgnibjebmlaa
set_option linter.unusedVariables false
set_option linter.unusedSimpArgs false
open Go

section
variable {P : Program} {ops : Array Oper} {md : Region.Mode} {C : World → Prop} {Q : Act → World → Prop}

/-- An operation has run: a value and a world; a call that hands back a value. -/
def goesUpon (P : Program) (R : Value → World → Prop) : Result Next → Prop
  | .ok (.value u) w' => R u w'
  | .ok .skip w' => R undef w'
  | .ok (.enter f args) w' => Calls P f args w' (fun e w'' => ∃ v, e = .returned v ∧ R v w'')
  | _ => False
theorem goesUpon_mono {R R' : Value → World → Prop} (h : ∀ v w, R v w → R' v w) {r : Result Next} (hh : goesUpon P R r) : goesUpon P R' r := by
  cases r with
  | ok n w' =>
    cases n <;> simp only [goesUpon] at hh ⊢
    case value u => exact h _ _ hh
    case skip => exact h _ _ hh
    case enter f args => exact hh.mono fun e w'' ⟨v, he, hr⟩ => ⟨v, he, h _ _ hr⟩
  | halt x w' => simp only [goesUpon] at hh
def eOp (P : Program) (ops : Array Oper) (i : Nat) (K : Act → World → Prop) (a : Act) (w : World) : Prop :=
  match ops[i]? with
  | none => K a w
  | some o => if Region.wanted o (yielded ops a.tmps) = true then goesUpon P (fun v w' => K (a.put o.dst v) w') ((execOp a.eval o).run P w) else K (a.put o.dst undef) w
theorem eOp_mono {i : Nat} {K K' : Act → World → Prop} {a : Act} {w : World} (h : ∀ a w, K a w → K' a w) (hh : eOp P ops i K a w) : eOp P ops i K' a w := by
  unfold eOp at *
  split
  · exact h _ _ (by simpa [*] using hh)
  · rename_i o ho
    simp only [ho] at hh
    split
    · rename_i hw; simp only [hw, if_true] at hh; exact goesUpon_mono (fun v w hr => h _ _ hr) hh
    · rename_i hw; simp only [hw] at hh; exact h _ _ hh
theorem wpOp_of_eOp {i : Nat} {K : Act → World → Prop} {Q' : Exit → Act → World → Prop} {a : Act} {w : World} (hh : eOp P ops i K a w) : wpOp P ops Q' i K a w := by
  unfold eOp at hh
  unfold wpOp
  split
  · rename_i ho; simp only [ho] at hh; exact hh
  · rename_i o ho
    simp only [ho] at hh
    split
    · rename_i hw
      simp only [hw, if_true] at hh
      refine .inl ?_
      unfold Oper.wp
      generalize (execOp a.eval o).run P w = r at *
      cases r with
      | ok n w' =>
        cases n <;> simp only [goesUpon] at hh <;> simp only [Oper.upon]
        case value u => exact hh
        case skip => exact hh
        case enter f args => exact hh.mono fun e w'' ⟨v, he, hr⟩ => by subst he; exact hr
      | halt x w' => simp only [goesUpon] at hh
    · rename_i hw; simp only [hw] at hh; exact hh
/-- In whatever order. -/
def wpAnyM (P : Program) (md : Region.Mode) (ops : Array Oper) (C : World → Prop) (Q : Act → World → Prop) : Nat → Array Bool → Act → World → Prop
  | 0, listed, a, w => Region.ready md ops listed = [] ∧ Q a w
  | fuel + 1, listed, a, w => (Region.ready md ops listed = [] → Q a w) ∧ ∀ i ∈ Region.ready md ops listed, eOp P ops i (fun a' w' => C w' ∧ wpAnyM P md ops C Q fuel (listed.setIfInBounds i true) a' w') a w
theorem wpAny_of_M {Q' : Exit → Act → World → Prop} (hQ : ∀ a w, Q a w → Q' .normal a w) : ∀ (fuel : Nat) (listed : Array Bool) (a : Act) (w : World), wpAnyM P md ops C Q fuel listed a w → wpAny P md ops Q' fuel listed a w
  | 0, _, _, _, h => ⟨h.1, hQ _ _ h.2⟩
  | fuel + 1, _, _, _, h => ⟨fun h0 => hQ _ _ (h.1 h0), fun i hi => wpOp_of_eOp (eOp_mono (fun a' w' h' => wpAny_of_M hQ fuel _ a' w' h'.2) (h.2 i hi))⟩
/-- In every world of the class the operation yields this value and leaves the world alone. -/
def YieldsAll (P : Program) (ops : Array Oper) (C : World → Prop) (o : Oper) (v : Value) (a : Act) : Prop :=
  (Region.wanted o (yielded ops a.tmps) = true ∧ ∀ w, C w → (execOp a.eval o).run P w = .ok (.value v) w) ∨ (Region.wanted o (yielded ops a.tmps) = false ∧ v = undef)
theorem YieldsAll.of_same {o : Oper} {v : Value} {a a' : Act} (hy : YieldsAll P ops C o v a) (he : execOp a'.eval o = execOp a.eval o)
    (hw : Region.wanted o (yielded ops a'.tmps) = Region.wanted o (yielded ops a.tmps)) : YieldsAll P ops C o v a' := by
  unfold YieldsAll at *
  rw [he, hw]
  exact hy
theorem YieldsAll.eOp {i : Nat} {o : Oper} {v : Value} {a : Act} {w : World} (hi : ops[i]? = some o) (hy : YieldsAll P ops C o v a) (hC : C w) {K : Act → World → Prop} (h : K (a.put o.dst v) w) : eOp P ops i K a w := by
  unfold Go.Proofs.Ytnfhgnibjebmlaa.eOp
  simp only [hi]
  rcases hy with ⟨hw, hv⟩ | ⟨hw, rfl⟩
  · simp only [hw, if_true, hv w hC, goesUpon]; exact h
  · simp only [hw, Bool.false_eq_true, if_false]; exact h
theorem eOp_put {j : Nat} {oi oj : Oper} {v : Value} (hj : ops[j]? = some oj) (hap : oi.apart ops oj = true)
    (hsi : ∀ cs b, oi.op ≠ .select cs b) (hsj : ∀ cs b, oj.op ≠ .select cs b) {K : Act → World → Prop} {a : Act} {w : World}
    (hy : YieldsAll P ops C oi v a) (h : eOp P ops j K (a.put oi.dst v) w) :
    eOp P ops j (fun a' w' => YieldsAll P ops C oi v a' ∧ K (a'.put oi.dst v) w') a w := by
  obtain ⟨h1, h2, h3⟩ := Oper.apart_spec hap
  have keep : ∀ (a : Act), YieldsAll P ops C oi v a → ∀ u, YieldsAll P ops C oi v (a.put oj.dst u) := fun a hy u =>
    hy.of_same (execOp_put oi hsi a oj.dst u h3) (wanted_put oi a oj.dst u h3)
  unfold eOp at *
  simp only [hj] at *
  rw [wanted_put oj a oi.dst v h1] at h
  split
  · rename_i hw
    simp only [hw, if_true] at h
    rw [execOp_put oj hsj a oi.dst v h1] at h
    refine goesUpon_mono (fun u w' hk => ⟨keep a hy u, ?_⟩) h
    rw [← Act.put_comm a v u h2]
    exact hk
  · rename_i hw
    simp only [hw] at h
    exact ⟨keep a hy _, by rw [← Act.put_comm a v undef h2]; exact h⟩
/-- An operation that only looks may be taken first. -/
theorem wpAnyM_first {i : Nat} {oi : Oper} {v : Value} (hi : ops[i]? = some oi) (hsel : ∀ (j : Nat) (o : Oper) cs b, ops[j]? = some o → o.op ≠ .select cs b) :
    ∀ (fuel : Nat) (listed : Array Bool) (a : Act) (w : World), C w →
      (∀ j oj, ops[j]? = some oj → j ≠ i → listed.getD j true = false → (∀ e ∈ oj.after, Region.binds md e = true → e.on ≠ i) → oi.apart ops oj = true) →
      i ∈ Region.ready md ops listed → YieldsAll P ops C oi v a →
      wpAnyM P md ops C Q fuel (listed.setIfInBounds i true) (a.put oi.dst v) w → wpAnyM P md ops C Q (fuel + 1) listed a w := by
  intro fuel
  induction fuel with
  | zero =>
    intro listed a w hC hfree hr hy H
    refine ⟨fun h => (by rw [h] at hr; cases hr), fun j hj => ?_⟩
    by_cases hji : j = i
    · subst hji; exact hy.eOp hi hC ⟨hC, H⟩
    · have := ready_mono hj hji
      rw [H.1] at this
      cases this
  | succ fuel ih =>
    intro listed a w hC hfree hr hy H
    refine ⟨fun h => (by rw [h] at hr; cases hr), fun j hj => ?_⟩
    by_cases hji : j = i
    · subst hji; exact hy.eOp hi hC ⟨hC, H⟩
    · have h1 := H.2 j (ready_mono hj hji)
      obtain ⟨hjun, oj, hoj, hall⟩ := mem_ready.1 hj
      have hnot : ∀ e ∈ oj.after, Region.binds md e = true → e.on ≠ i := fun e he hb heq => by
        have h1 := hall e he hb
        have h0 := (mem_ready.1 hr).1
        rw [heq] at h1
        rcases Nat.lt_or_ge i listed.size with h' | h'
        · simp [h'] at h0 h1; rw [h0] at h1; cases h1
        · simp [Array.getElem?_eq_none h'] at h1
      have h2 := eOp_put hoj (hfree j oj hoj hji hjun hnot) (fun cs b => hsel i oi cs b hi) (fun cs b => hsel j oj cs b hoj) hy h1
      have hfree' : ∀ k ok, ops[k]? = some ok → k ≠ i → (listed.setIfInBounds j true).getD k true = false →
          (∀ e ∈ ok.after, Region.binds md e = true → e.on ≠ i) → oi.apart ops ok = true := fun k ok hk hki hun hno => by
        refine hfree k ok hk hki ?_ hno
        by_cases hjk : j = k
        · subst hjk; exact hjun
        · rw [getD_set_ne true hjk] at hun; exact hun
      refine eOp_mono (fun a' w' h3 => ⟨h3.2.1, ih (listed.setIfInBounds j true) a' w' h3.2.1 hfree' (ready_mono hr (Ne.symm hji)) h3.1 ?_⟩) h2
      rw [Array.setIfInBounds_comm _ _ hji]
      exact h3.2.2
/-- The order that is walked: what only looks first; what writes when nothing else may come up. -/
def mixFrom (md : Region.Mode) (ops : Array Oper) : List (Nat × Bool) → Array Bool → Bool
  | [], listed => (Region.ready md ops listed).isEmpty
  | (k, b) :: r, listed => (if b then (Region.ready md ops listed).contains k && Region.free md ops listed k else Region.ready md ops listed == [k]) && mixFrom md ops r (listed.setIfInBounds k true)
def wpMix (P : Program) (ops : Array Oper) (C : World → Prop) (Q : Act → World → Prop) : List (Nat × Bool) → Act → World → Prop
  | [], a, w => Q a w
  | (k, true) :: r, a, w => ∃ o v, ops[k]? = some o ∧ YieldsAll P ops C o v a ∧ wpMix P ops C Q r (a.put o.dst v) w
  | (k, false) :: r, a, w => eOp P ops k (fun a' w' => C w' ∧ wpMix P ops C Q r a' w') a w
theorem wpAnyM_mix (hs : Region.noSelect ops = true) : ∀ (r : List (Nat × Bool)) (listed : Array Bool) (a : Act) (w : World), C w → mixFrom md ops r listed = true → wpMix P ops C Q r a w → wpAnyM P md ops C Q r.length listed a w
  | [], _, _, _, _, hB, h => ⟨by simpa [mixFrom] using hB, h⟩
  | (k, true) :: r, listed, a, w, hC, hB, h => by
    simp only [mixFrom, if_true, Bool.and_eq_true] at hB
    obtain ⟨⟨hr, hf⟩, hB'⟩ := hB
    obtain ⟨o, v, ho, hy, hK⟩ := h
    exact wpAnyM_first ho (Region.noSelect_spec hs) r.length listed a w hC (Region.free_spec ho hf) (by simpa using hr) hy (wpAnyM_mix hs r _ _ _ hC hB' hK)
  | (k, false) :: r, listed, a, w, hC, hB, h => by
    simp only [mixFrom, Bool.false_eq_true, if_false, Bool.and_eq_true, beq_iff_eq] at hB
    obtain ⟨hr, hB'⟩ := hB
    refine ⟨fun h0 => (by rw [hr] at h0; cases h0), fun i hi => ?_⟩
    rw [hr] at hi
    obtain rfl : i = k := by simpa using hi
    exact eOp_mono (fun a' w' h' => ⟨h'.1, wpAnyM_mix hs r _ a' w' h'.1 hB' h'.2⟩) h
theorem wp_region_mix {id : Nat} {Q : Exit → Act → World → Prop} {a : Act} {w : World} {l : List Oper} (r : List (Nat × Bool)) (C : World → Prop) (hm : P.follows .mixedOrders = true) (hs : Region.noSelect l.toArray = true) (hl : r.length = l.toArray.size)
    (hB : mixFrom .any l.toArray r (Array.replicate l.toArray.size false) = true) (hC : C { w with drawn := w.drawn + 1 })
    (h : wpMix P l.toArray C (fun a' w' => Q .normal a' w') r a { w with drawn := w.drawn + 1 }) : (Code.region id l.toArray true).wp P Q a w := by
  refine wp_region_any hm (wpAny_of_M (C := C) (Q := fun a' w' => Q .normal a' w') (fun _ _ h => h) _ _ _ _ ?_)
  rw [← hl]
  exact wpAnyM_mix hs r _ a _ hC (by rw [hl]; exact hB) h
theorem mix_look {k : Nat} {r : List (Nat × Bool)} {a : Act} {w : World} (o : Oper) (v : Value) (hk : ops[k]? = some o) (hw : Region.wanted o (yielded ops a.tmps) = true) (hv : ∀ w, C w → (execOp a.eval o).run P w = .ok (.value v) w)
    (h : wpMix P ops C Q r (a.put o.dst v) w) : wpMix P ops C Q ((k, true) :: r) a w := ⟨o, v, hk, .inl ⟨hw, hv⟩, h⟩
theorem mix_skip {k : Nat} {r : List (Nat × Bool)} {a : Act} {w : World} (o : Oper) (hk : ops[k]? = some o) (hw : Region.wanted o (yielded ops a.tmps) = false)
    (h : wpMix P ops C Q r (a.put o.dst undef) w) : wpMix P ops C Q ((k, true) :: r) a w := ⟨o, undef, hk, .inr ⟨hw, rfl⟩, h⟩
theorem mix_value {k : Nat} {r : List (Nat × Bool)} {a : Act} {w : World} (o : Oper) (v : Value) (w' : World) (hk : ops[k]? = some o) (hw : Region.wanted o (yielded ops a.tmps) = true) (hv : (execOp a.eval o).run P w = .ok (.value v) w') (hC : C w')
    (h : wpMix P ops C Q r (a.put o.dst v) w') : wpMix P ops C Q ((k, false) :: r) a w := by
  show eOp P ops k _ a w
  unfold eOp
  simp only [hk, hw, if_true, hv, goesUpon]
  exact ⟨hC, h⟩
theorem mix_call {k : Nat} {r : List (Nat × Bool)} {a : Act} {w : World} (o : Oper) (f : FuncId) (args : Array Value) (hk : ops[k]? = some o) (hw : Region.wanted o (yielded ops a.tmps) = true) (hv : (execOp a.eval o).run P w = .ok (.enter f args) w)
    (h : Calls P f args w fun e w'' => ∃ v, e = .returned v ∧ C w'' ∧ wpMix P ops C Q r (a.put o.dst v) w'') : wpMix P ops C Q ((k, false) :: r) a w := by
  show eOp P ops k _ a w
  unfold eOp
  simp only [hk, hw, if_true, hv, goesUpon]
  exact h
theorem wpMix_nil {a : Act} {w : World} (h : Q a w) : wpMix P ops C Q [] a w := h
theorem run_op_append {o : Oper} {a : Act} {w w' : World} {v u v' : Value} (s x : Operand) (t : TypeId) (ho : o.op = .call { callee := .builtin .append, args := #[s, x], argTypes := #[t, t] }) (hs : a.eval s = v) (hx : a.eval x = u)
    (hr : (Builtin.append_ #[t, t] o.type #[v, u]).run P w = .ok v' w') : (execOp a.eval o).run P w = .ok (.value v') w' := by
  unfold execOp
  simp only [ho, resolve, invoke, builtin, Sem.run_bind, Sem.run_pure, Result.andThen_ok, List.map_toArray, List.map_cons, List.map_nil, hs, hx, hr]
end

end Go.Proofs.Ytnfhgnibjebmlaa

/-
  Walks: drawn arguments of the laws on one team.-/
namespace Go.Proofs.Ytnfhgnibjebmlaa
set_option linter.unusedVariables false
set_option linter.unusedSimpArgs false
open Go.RowKit Go.Deep

/-- A slice that is read, wherever it lies. -/
def SlH (w : World) (sz : Nat) (v : Value) (n : Nat) (c : Nat → Nat → Value) : Prop := ∃ hi, hi ≤ w.heap.size ∧ Sl w 0 hi sz v n c
section
variable {w w' : World} {sz n : Nat} {v : Value} {c : Nat → Nat → Value}
theorem SlH.below (h : SlH w sz v n c) (hb : Below w.heap.size w w') : SlH w' sz v n c := by
  obtain ⟨hi, h1, h2⟩ := h
  exact ⟨hi, Nat.le_trans h1 hb.size, h2.below hb h1⟩
theorem SlH.form (h : SlH w sz v n c) : ∃ A cap, v = .slice A n cap ∧ n ≤ cap := by
  obtain ⟨hi, _, h2⟩ := h
  obtain ⟨A, cap, e, hcap, _⟩ := h2.open_
  exact ⟨A, cap, e, hcap⟩
end
/-- A drawn team comes back. -/
def DtPost (w : World) (e : Ending) (w' : World) : Prop := ∃ (T : Tm) (vc : Value), e = .returned (.agg #[.string T.s, .int .i64 T.v, .int .i64 T.y, vc]) ∧ Sl w' w.heap.size w'.heap.size 2 vc T.n (iiC T.m T.b) ∧ T.fits ∧ Below w.heap.size w w'
/-- A drawn team and a number. -/
def DtkPost (w : World) (e : Ending) (w' : World) : Prop := ∃ (T : Tm) (vc : Value) (k : Int), e = .returned (.tuple #[.agg #[.string T.s, .int .i64 T.v, .int .i64 T.y, vc], .int .i64 k]) ∧ Sl w' w.heap.size w'.heap.size 2 vc T.n (iiC T.m T.b) ∧ T.fits ∧ Below w.heap.size w w'
/-- The cells of a box of the caller, written over, do not touch a slice that lies above. -/
theorem sl_over {w w' : World} {lo n b : Nat} {vc : Value} {f k : Nat → Int} (h : Sl w lo w.heap.size 2 vc n (iiC f k)) (hk : ∀ q, q ≠ b → w'.heap[q]? = w.heap[q]?) (hb : b < lo) (hs : w.heap.size ≤ w'.heap.size) : Sl w' lo w'.heap.size 2 vc n (iiC f k) :=
  (h.keep fun q h1 _ => hk q (by omega)).mono (Nat.le_refl _) hs
theorem four_set (w : World) (b : Nat) (a0 a1 a2 a3 : Value) : (∀ q, q ≠ b → ((((w.setCell ⟨b, 0, none⟩ a0).setCell ⟨b, 1, none⟩ a1).setCell ⟨b, 2, none⟩ a2).setCell ⟨b, 3, none⟩ a3).heap[q]? = w.heap[q]?) ∧ ((((w.setCell ⟨b, 0, none⟩ a0).setCell ⟨b, 1, none⟩ a1).setCell ⟨b, 2, none⟩ a2).setCell ⟨b, 3, none⟩ a3).heap.size = w.heap.size :=
  ⟨fun q hq => (blk_setCell_other _ _ _ _ (by exact hq)).trans ((blk_setCell_other _ _ _ _ (by exact hq)).trans ((blk_setCell_other _ _ _ _ (by exact hq)).trans (blk_setCell_other _ _ _ _ (by exact hq)))), by simp [World.setCell]⟩
theorem four_below {w0 w : World} {b B : Nat} (h : Below B w0 w) (hb : B ≤ b) (a0 a1 a2 a3 : Value) : Below B w0 ((((w.setCell ⟨b, 0, none⟩ a0).setCell ⟨b, 1, none⟩ a1).setCell ⟨b, 2, none⟩ a2).setCell ⟨b, 3, none⟩ a3) :=
  (((h.setCell hb _).setCell hb _).setCell hb _).setCell hb _
set_option maxRecDepth 100000 in
set_option maxHeartbeats 3200000 in
theorem boardMinute_any (g m : Nat) (w : World) (h : Cu w g m) (hm : m < 100000000) :
    Calls Try.prog 48 #[.pointer (some ⟨g, 0, none⟩)] w fun e w' => ∃ v : Int, e = .returned (.int .i64 v) ∧ Cu w' g (m + 10) ∧ Only g (g + 1) w w' := by
  go_enter Try.func48, Try.ntmps48
  go_wp2_with fail
  refine (pick_any g _ _ _ h (by omega)).mono ?_
  rintro e w1 ⟨v1, rfl, _, C1, o1⟩
  go_wp2_with fail
  refine (among_new g _ _ _ _ _ _ C1 (by first | (with_reducible rfl) | simp) (by omega) (by rfl) (by decide) (by decide) (by simp [isI])).mono ?_
  rintro e w2 ⟨v2, rfl, _, C2, o2⟩
  go_wp2_with fail
  refine (among_new g _ _ _ _ _ _ C2 (by first | (with_reducible rfl) | simp) (by omega) (by rfl) (by decide) (by decide) (by simp [isI])).mono ?_
  rintro e w3 ⟨v3, rfl, _, C3, o3⟩
  go_wp2_with fail
  go_ret
  exact ⟨v3, rfl, C3.more (by omega), (o1.trans o2).trans o3⟩

end Go.Proofs.Ytnfhgnibjebmlaa

/-
  Walks: the laws' own words on a team: a copy, a size, a comparison.-/
namespace Go.Proofs.Ytnfhgnibjebmlaa
set_option linter.unusedVariables false
set_option linter.unusedSimpArgs false
open Go.RowKit

def szTF (left : Int) (T : Tm) : Int := if left < T.s.size then -1 else leftF (left - T.s.size) T.n
def Tm.some (T : Tm) : Prop := T.s.size ≤ maxLen ∧ T.n ≤ 9223372036854775807
theorem szTF_le {left : Int} {T : Tm} (h : 0 ≤ left) : -1 ≤ szTF left T ∧ szTF left T ≤ left := by
  unfold szTF leftF
  split
  · omega
  · split <;> omega
theorem szTF_n {left : Int} {T : Tm} (h : 0 ≤ szTF left T) : (T.s.size : Int) ≤ left ∧ (T.n : Int) ≤ left := by
  unfold szTF leftF at h
  split at h
  · omega
  · split at h <;> omega
theorem Own.aside {w : World} {lo hi E sz n k : Nat} {v : Value} {c : Nat → Nat → Value} (h : Own w lo hi E sz v n k c) {a : Addr} (ha : a.block < lo) (u : Value) : Own (w.setCell a u) lo hi E sz v n k c :=
  h.keep fun b h1 h2 => Deep.blk_setCell_other _ _ _ _ (by omega)

end Go.Proofs.Ytnfhgnibjebmlaa

/-
  Walks: the laws' own words on boards: copies, sizes, comparisons.-/
namespace Go.Proofs.Ytnfhgnibjebmlaa
set_option linter.unusedVariables false
set_option linter.unusedSimpArgs false
open Go.RowKit

theorem tC_upd {T : Nat → Tm} {ck : Nat → Value} {u : Value} {k : Nat} : ∀ i j, i < k → j < 4 → tC T ck i j = tC T (fun i => if i = k then u else ck i) i j := by
  intro i j hi _
  have : ¬ i = k := by omega
  simp [tC, this]
theorem SlT.mono {w : World} {lo hi lo' hi' n : Nat} {v : Value} {T : Nat → Tm} (h : SlT w lo hi v n T) (h1 : lo' ≤ lo) (h2 : hi ≤ hi') : SlT w lo' hi' v n T := by
  obtain ⟨ck, a, b⟩ := h
  exact ⟨ck, a.mono h1 h2, fun i hi => (b i hi).mono h1 h2⟩
theorem Sl.aside {w : World} {lo hi sz n : Nat} {v : Value} {c : Nat → Nat → Value} (h : Sl w lo hi sz v n c) {a : Addr} (ha : a.block < lo) (u : Value) : Sl (w.setCell a u) lo hi sz v n c :=
  h.keep fun b h1 h2 => Deep.blk_setCell_other _ _ _ _ (by omega)
theorem infoTeam : (Try.prog.info? 27).map (fun i => (i.zero, i.size, i.bytes)) = some (some (.agg #[.string ⟨#[]⟩, .int .i64 0, .int .i64 0, .slice none 0 0]), 4, 56) := by kernel_rfl

def szTK (left : Int) (T : Nat → Tm) : Nat → Int
  | 0 => left
  | k + 1 => if szTK left T k < 0 then -1 else szTF (szTK left T k) (T k)
def szTS (left : Int) (T : Nat → Tm) (n : Nat) : Int := if left < n then -1 else szTK (left - n) T n
theorem szTK_le {left : Int} {T : Nat → Tm} (h : 0 ≤ left) : ∀ k, -1 ≤ szTK left T k ∧ szTK left T k ≤ left
  | 0 => by simp only [szTK]; omega
  | k + 1 => by
    have ih := szTK_le (T := T) h k
    simp only [szTK]
    split
    · omega
    · have := szTF_le (T := T k) (left := szTK left T k) (by omega)
      omega
theorem szTK_neg {left : Int} {T : Nat → Tm} {k n : Nat} (h : szTK left T k < 0) (hk : k < n) : szTK left T n = -1 := by
  induction n with
  | zero => omega
  | succ n ih =>
    simp only [szTK]
    rcases Nat.lt_or_ge k n with h1 | h1
    · rw [ih h1]; rfl
    · obtain rfl : k = n := by omega
      rw [if_pos h]
theorem szTK_fit {left : Int} {T : Nat → Tm} {n i : Nat} (hl : 0 ≤ left) (hl' : left ≤ 1048576) (h : 0 ≤ szTK left T n) (hi : i < n) : (T i).n ≤ 1048576 := by
  have h1 : 0 ≤ szTK left T (i + 1) := by
    rcases Nat.lt_or_ge (i + 1) n with h2 | h2
    · by_cases h3 : szTK left T (i + 1) < 0
      · have := szTK_neg h3 h2; omega
      · omega
    · obtain rfl : n = i + 1 := by omega
      exact h
  rw [szTK] at h1
  split at h1
  · omega
  · have := szTF_n h1
    have := (szTK_le (T := T) hl i).2
    omega
def tsome (T : Nat → Tm) (n : Nat) : Prop := n ≤ 9223372036854775807 ∧ ∀ i, i < n → (T i).some
theorem szTS_fits {T : Nat → Tm} {n : Nat} (hs : tsome T n) (h : 0 ≤ szTS 1048576 T n) : tfits T n := by
  unfold szTS at h
  split at h
  · omega
  · exact ⟨by omega, fun i hi => ⟨(hs.2 i hi).1, szTK_fit (left := 1048576 - n) (by omega) (by omega) h hi⟩⟩
set_option maxHeartbeats 800000 in
theorem IsBoard_impl (T : Nat → Tm) (n lo hi : Nat) (v : Value) (w : World) (hv : SlT w lo hi v n T) (hhi : hi ≤ w.heap.size) (hf : tfits T n) :
    Calls Try.prog 10 #[v] w fun e w' => e = .returned (.bool (bdB T n)) ∧ Below w.heap.size w w' := by
  go_enter Try.func10, Try.ntmps10
  go_wp2_with (go_at_call 32; refine (isBoard_any T n lo hi _ _ hv hhi hf).mono ?_; rintro e w1 ⟨rfl, hb1⟩; have hz1 := hb1.size; (try (simp at hz1)); obtain ⟨hcw1, hfw1⟩ := bcell hb1; (try (have hy1 : w.heap.size < w1.heap.size := by omega)); (try (have hyy1 : w.heap.size + 1 < w1.heap.size := by omega)); (try (have hyyy1 : w.heap.size + 1 + 1 < w1.heap.size := by omega)))
  go_ret
  exact ⟨rfl, (by repeat (first | (with_reducible exact Below.refl _ _) | (with_reducible refine below_ov ?_ ?_) | (with_reducible refine Below.setCell ?_ ?_ _) | (with_reducible refine Below.alloc ?_ ?_ _) | (with_reducible refine Below.drew ?_) | (with_reducible refine below_drewN ?_ _) | (refine Below.trans ?_ (Below.mono ‹Below _ _ _› (by first | omega | (simp; done) | (simp; omega)))) | exact Below.refl _ _ | omega | (focus (simp; done)) | (focus (simp; omega))))⟩

end Go.Proofs.Ytnfhgnibjebmlaa

/-
  Walks: what the reference draws of boards with what is asked of them (printed by gen_drwb2.py). Whatever it is.-/
namespace Go.Proofs.Ytnfhgnibjebmlaa
set_option linter.unusedVariables false
set_option linter.unusedSimpArgs false
open Go.RowKit

theorem slTO {w w' : World} {lo hi n g : Nat} {v : Value} {T : Nat → Tm} (h : SlT w lo hi v n T) (hO : Only g (g + 1) w w') (hg : g < lo) (hs : hi ≤ w.heap.size) : SlT w' lo hi v n T := by
  obtain ⟨ck, h1, h2⟩ := h
  exact ⟨ck, h1.keep fun q a b => hO.block q (by omega) (by omega), fun i hi => (h2 i hi).keep fun q a b => hO.block q (by omega) (by omega)⟩
/-- A drawn board alone. -/
def BdPost (w : World) (e : Ending) (w' : World) : Prop := ∃ (u : Value) (n : Nat) (T : Nat → Tm), e = .returned u ∧ n ≤ 7 ∧ (∀ i, i < n → (T i).s.size ≤ 7 ∧ (T i).n ≤ 21) ∧ SlT w' w.heap.size w'.heap.size u n T ∧ Below w.heap.size w w'
set_option maxRecDepth 100000 in
set_option maxHeartbeats 1600000 in
theorem DrawIsBoard_any (v : Value) (w : World) (h : Code w v) : Calls Try.prog 53 #[v] w (BdPost w) := by
  obtain ⟨A, n, cap, rfl⟩ := h.form
  have C0 : Cu (w.alloc (.cells #[.slice A n cap, .int .i64 0, .int .u64 0] 60)) (w.heap.size) 0 := by
    have := Cu.start h 60
    simpa using this
  have O0 : Only (w.heap.size) (w.heap.size + 1) w (w.alloc (.cells #[.slice A n cap, .int .i64 0, .int .u64 0] 60)) := (Only.refl _ _ w).alloc _
  go_enter Try.func53, Try.ntmps53
  go_wp2_with fail
  refine (board_any _ _ _ C0 (by omega)).mono ?_
  rintro e w1 ⟨u, n1, T, rfl, hn1, hc1, hs1, C1, o1⟩
  have S1 := hide (hs1.mono (show w.heap.size + 1 ≤ _ by simp) (Nat.le_refl _))
  have hz1 : w.heap.size + 1 ≤ w1.heap.size := by have := o1.size; simp at this; omega
  have O1 := O0.trans o1
  have HC := hide hc1
  obtain ⟨A1, c1, rfl, _⟩ := hs1.open_
  clear C0 O0 o1 hs1 hc1
  have hb : Below w.heap.size w w1 := O1.below (Nat.le_refl _) (Nat.le_refl _)
  have SF := hide (S1.out.mono (show w.heap.size ≤ w.heap.size + 1 by omega) (Nat.le_refl _))
  clear O1 S1 C1
  go_wp2_with fail
  go_ret
  exact ⟨_, _, _, rfl, hn1, HC.out, SF.out, hb⟩
set_option maxRecDepth 100000 in
set_option maxHeartbeats 1600000 in
theorem DrawFirstTurn_any (v : Value) (w : World) (h : Code w v) : Calls Try.prog 20 #[v] w (BdPost w) := by
  go_enter Try.func20, Try.ntmps20
  go_wp2_with fail
  refine (DrawIsBoard_any v _ h).mono ?_
  rintro e w1 ⟨u, n1, T, rfl, hn1, hc1, hs1, hb⟩
  have SF := hide hs1
  have HC := hide hc1
  clear hs1 hc1
  go_wp2_with fail
  go_ret
  exact ⟨_, _, _, rfl, hn1, HC.out, SF.out, hb⟩
/-- A drawn board and a minute. -/
def BmPost (w : World) (e : Ending) (w' : World) : Prop := ∃ (u : Value) (n : Nat) (T : Nat → Tm) (x : Int), e = .returned (.tuple #[u, .int .i64 x]) ∧ n ≤ 7 ∧ (∀ i, i < n → (T i).s.size ≤ 7 ∧ (T i).n ≤ 21) ∧ SlT w' w.heap.size w'.heap.size u n T ∧ Below w.heap.size w w'
set_option maxRecDepth 100000 in
set_option maxHeartbeats 1600000 in
theorem DrawRecalledTeams_any (v : Value) (w : World) (h : Code w v) : Calls Try.prog 11 #[v] w (BmPost w) := by
  obtain ⟨A, n, cap, rfl⟩ := h.form
  have C0 : Cu (w.alloc (.cells #[.slice A n cap, .int .i64 0, .int .u64 0] 60)) (w.heap.size) 0 := by
    have := Cu.start h 60
    simpa using this
  have O0 : Only (w.heap.size) (w.heap.size + 1) w (w.alloc (.cells #[.slice A n cap, .int .i64 0, .int .u64 0] 60)) := (Only.refl _ _ w).alloc _
  go_enter Try.func11, Try.ntmps11
  go_wp2_with fail
  refine (board_any _ _ _ C0 (by omega)).mono ?_
  rintro e w1 ⟨u, n1, T, rfl, hn1, hc1, hs1, C1, o1⟩
  have S1 := hide (hs1.mono (show w.heap.size + 1 ≤ _ by simp) (Nat.le_refl _))
  have hz1 : w.heap.size + 1 ≤ w1.heap.size := by have := o1.size; simp at this; omega
  have O1 := O0.trans o1
  have HC := hide hc1
  obtain ⟨A1, c1, rfl, _⟩ := hs1.open_
  clear C0 O0 o1 hs1 hc1
  go_wp2_with fail
  refine (boardMinute_any _ _ _ C1 (by omega)).mono ?_
  rintro e w2 ⟨x, rfl, C2, o2⟩
  have S2 := hide ((slTO S1.out o2 (by omega) (Nat.le_refl _)).mono (Nat.le_refl _) o2.size)
  have O2 := O1.trans o2
  clear S1 O1 o2 C1
  have hb : Below w.heap.size w w2 := O2.below (Nat.le_refl _) (Nat.le_refl _)
  have SF := hide (S2.out.mono (show w.heap.size ≤ w.heap.size + 1 by omega) (Nat.le_refl _))
  clear O2 S2 C2
  go_wp2_with fail
  exact bodyPost_ret (v := .tuple #[.slice A1 n1 c1, .int .i64 x]) (by simp [results, Try.results11, go_sem, *]) rfl ⟨_, _, _, _, rfl, hn1, HC.out, SF.out, hb⟩
/-- A drawn board and a name. -/
def BnPost (w : World) (e : Ending) (w' : World) : Prop := ∃ (u : Value) (n : Nat) (T : Nat → Tm) (s : ByteArray), e = .returned (.tuple #[u, .string s]) ∧ n ≤ 7 ∧ (∀ i, i < n → (T i).s.size ≤ 7 ∧ (T i).n ≤ 21) ∧ s.size ≤ 7 ∧ SlT w' w.heap.size w'.heap.size u n T ∧ Below w.heap.size w w'
set_option maxRecDepth 100000 in
set_option maxHeartbeats 1600000 in
theorem DrawLeaveTeam_any (v : Value) (w : World) (h : Code w v) : Calls Try.prog 27 #[v] w (BnPost w) := by
  obtain ⟨A, n, cap, rfl⟩ := h.form
  have C0 : Cu (w.alloc (.cells #[.slice A n cap, .int .i64 0, .int .u64 0] 60)) (w.heap.size) 0 := by
    have := Cu.start h 60
    simpa using this
  have O0 : Only (w.heap.size) (w.heap.size + 1) w (w.alloc (.cells #[.slice A n cap, .int .i64 0, .int .u64 0] 60)) := (Only.refl _ _ w).alloc _
  go_enter Try.func27, Try.ntmps27
  go_wp2_with fail
  refine (board_any _ _ _ C0 (by omega)).mono ?_
  rintro e w1 ⟨u, n1, T, rfl, hn1, hc1, hs1, C1, o1⟩
  have S1 := hide (hs1.mono (show w.heap.size + 1 ≤ _ by simp) (Nat.le_refl _))
  have hz1 : w.heap.size + 1 ≤ w1.heap.size := by have := o1.size; simp at this; omega
  have O1 := O0.trans o1
  have HC := hide hc1
  obtain ⟨A1, c1, rfl, _⟩ := hs1.open_
  clear C0 O0 o1 hs1 hc1
  go_wp2_with fail
  refine (of_new _ _ _ _ _ _ _ C1 (by first | (with_reducible rfl) | simp) (by omega) (by rfl) (by decide) (by decide) (by simp [isS])).mono ?_
  rintro e w2 ⟨s, rfl, hM2, C2, o2⟩
  have hss : s.size ≤ 7 := bd_small hM2 (by simp [bdSm]; try decide)
  have S2 := hide ((slTO S1.out o2 (by omega) (Nat.le_refl _)).mono (Nat.le_refl _) o2.size)
  have O2 := O1.trans o2
  clear S1 O1 o2 C1 hM2
  have hb : Below w.heap.size w w2 := O2.below (Nat.le_refl _) (Nat.le_refl _)
  have SF := hide (S2.out.mono (show w.heap.size ≤ w.heap.size + 1 by omega) (Nat.le_refl _))
  clear O2 S2 C2
  go_wp2_with fail
  exact bodyPost_ret (v := .tuple #[.slice A1 n1 c1, .string s]) (by simp [results, Try.results27, go_sem, *]) rfl ⟨_, _, _, _, rfl, hn1, HC.out, hss, SF.out, hb⟩

end Go.Proofs.Ytnfhgnibjebmlaa

/-
  Walks: the reference's draw of a board and a team to enter (printed by gen_drwb3.py). Whatever it is.-/
namespace Go.Proofs.Ytnfhgnibjebmlaa
set_option linter.unusedVariables false
set_option linter.unusedSimpArgs false
open Go.RowKit

/-- A drawn board and a team. -/
def BtPost (w : World) (e : Ending) (w' : World) : Prop := ∃ (u : Value) (n : Nat) (T : Nat → Tm) (X : Tm) (vc : Value), e = .returned (.tuple #[u, .agg #[.string X.s, .int .i64 X.v, .int .i64 X.y, vc]]) ∧ n ≤ 7 ∧ (∀ i, i < n → (T i).s.size ≤ 7 ∧ (T i).n ≤ 21) ∧ X.s.size ≤ 7 ∧ X.n ≤ 21 ∧ Sl w' w.heap.size w'.heap.size 2 vc X.n (iiC X.m X.b) ∧ SlT w' w.heap.size w'.heap.size u n T ∧ Below w.heap.size w w'
set_option maxRecDepth 100000 in
set_option maxHeartbeats 3200000 in
theorem DrawEnterTeam_any (v : Value) (w : World) (h : Code w v) : Calls Try.prog 5 #[v] w (BtPost w) := by
  obtain ⟨A, n, cap, rfl⟩ := h.form
  have C0 : Cu ((w.alloc (.cells #[.string ⟨#[]⟩, .int .i64 0, .int .i64 0, .slice none 0 0] 27)).alloc (.cells #[.slice A n cap, .int .i64 0, .int .u64 0] 60)) (w.heap.size + 1) 0 := by
    have := Cu.start (h.below ((Below.refl _ _).alloc (Nat.le_refl _) (.cells #[.string ⟨#[]⟩, .int .i64 0, .int .i64 0, .slice none 0 0] 27)) (Nat.le_refl _)) 60
    simpa using this
  have R0 := hide ((BxT.new w ⟨#[]⟩ 0 0 (.slice none 0 0) 27).alloc (.cells #[.slice A n cap, .int .i64 0, .int .u64 0] 60))
  have O0 : Only (w.heap.size + 1) (w.heap.size + 1 + 1) w ((w.alloc (.cells #[.string ⟨#[]⟩, .int .i64 0, .int .i64 0, .slice none 0 0] 27)).alloc (.cells #[.slice A n cap, .int .i64 0, .int .u64 0] 60)) := ((Only.refl _ _ w).alloc _).alloc _
  go_enter Try.func5, Try.ntmps5
  go_wp2_with fail
  refine (board_any _ _ _ C0 (by omega)).mono ?_
  rintro e w1 ⟨u, n1, T, rfl, hn1, hc1, hs1, C1, o1⟩
  have S1 := hide (hs1.mono (show w.heap.size + 1 + 1 ≤ _ by simp) (Nat.le_refl _))
  have hz1 : w.heap.size + 1 + 1 ≤ w1.heap.size := by have := o1.size; simp at this; omega
  have O1 := O0.trans o1
  have R1 := hide (R0.out.only o1 (by omega))
  have HC := hide hc1
  obtain ⟨A1, c1, rfl, _⟩ := hs1.open_
  clear C0 O0 R0 o1 hs1 hc1
  go_wp2_with fail
  refine (of_new _ _ _ _ _ _ _ C1 (by first | (with_reducible rfl) | simp) (by omega) (by rfl) (by decide) (by decide) (by simp [isS])).mono ?_
  rintro e w3 ⟨s, rfl, hM3, C3, o3⟩
  have hss : s.size ≤ 7 := bd_small hM3 (by simp [bdSm]; try decide)
  have S3 := hide ((slTO S1.out o3 (by omega) (Nat.le_refl _)).mono (Nat.le_refl _) o3.size)
  have R3 := hide (R1.out.only o3 (by omega))
  have O3 := O1.trans o3
  have hz3 : w.heap.size + 1 + 1 ≤ w3.heap.size := by have := o3.size; omega
  clear S1 R1 O1 o3 C1 hM3
  go_wp2_with fail
  refine (team_any s _ _ _ C3 (by omega)).mono ?_
  rintro e w4 ⟨x, y, vc, n2, rfl, I4, hn2, C4, o4⟩
  obtain ⟨Au, cu, rfl⟩ := I4.form
  obtain ⟨fm, fb, hsl⟩ := I4.sl2
  have S4 := hide ((slTO S3.out o4 (by omega) (Nat.le_refl _)).mono (Nat.le_refl _) o4.size)
  have R4 := hide (R3.out.only o4 (by omega))
  have O4 := O3.trans o4
  have hz4 : w.heap.size + 1 + 1 ≤ w4.heap.size := by have := o4.size; omega
  have HSL := hide (hsl.mono (show w.heap.size + 1 + 1 ≤ w3.heap.size by omega) (Nat.le_refl _))
  clear S3 R3 O3 o4 C3 C4 I4 hsl
  obtain ⟨r0, r1, r2, r3, rf, rl⟩ := R4.out
  have hb4 : Below w.heap.size w w4 := O4.below (by omega) (Nat.le_refl _)
  obtain ⟨W5, hW5⟩ : ∃ W, W = (((w4.setCell ⟨w.heap.size, 0, none⟩ (.string s)).setCell ⟨w.heap.size, 1, none⟩ (.int .i64 x)).setCell ⟨w.heap.size, 2, none⟩ (.int .i64 y)).setCell ⟨w.heap.size, 3, none⟩ (.slice Au n2 cu) := ⟨_, rfl⟩
  have hzz : W5.heap.size = w4.heap.size := by rw [hW5]; simp [World.setCell]
  have hk : ∀ q, w.heap.size < q → W5.heap[q]? = w4.heap[q]? := fun q hq => by
    rw [hW5, Deep.blk_setCell_other _ _ _ _ (by show q ≠ w.heap.size; omega), Deep.blk_setCell_other _ _ _ _ (by show q ≠ w.heap.size; omega), Deep.blk_setCell_other _ _ _ _ (by show q ≠ w.heap.size; omega), Deep.blk_setCell_other _ _ _ _ (by show q ≠ w.heap.size; omega)]
  have SF : Hid (SlT W5 w.heap.size W5.heap.size (.slice A1 n1 c1) n1 T) := by
    show SlT _ _ _ _ _ _
    rw [hzz]
    obtain ⟨ck, q1, q2⟩ := S4.out
    exact ⟨ck, (q1.keep fun q a b => hk q (by omega)).mono (by omega) (Nat.le_refl _), fun i hi => ((q2 i hi).keep fun q a b => hk q (by omega)).mono (by omega) (Nat.le_refl _)⟩
  have SC : Hid (Sl W5 w.heap.size W5.heap.size 2 (.slice Au n2 cu) n2 (iiC fm fb)) := by
    show Sl _ _ _ _ _ _ _
    rw [hzz]
    exact (HSL.out.keep fun q a b => hk q (by omega)).mono (by omega) (Nat.le_refl _)
  have hbF : Hid (Below w.heap.size w W5) := by
    show Below _ _ _
    rw [hW5]
    exact (((hb4.setCell (by show w.heap.size ≤ w.heap.size; omega) _).setCell (by show w.heap.size ≤ w.heap.size; omega) _).setCell (by show w.heap.size ≤ w.heap.size; omega) _).setCell (by show w.heap.size ≤ w.heap.size; omega) _
  rw [hW5] at SF SC hbF
  clear S4 R4 O4 HSL hW5 hzz hk hb4
  go_wp2_with fail
  exact bodyPost_ret (v := .tuple #[.slice A1 n1 c1, .agg #[.string s, .int .i64 x, .int .i64 y, .slice Au n2 cu]]) (by simp [results, Try.results5, go_sem, *]) rfl ⟨_, _, T, ⟨s, x, y, n2, fm, fb⟩, _, rfl, hn1, HC.out, hss, hn2, SC.out, SF.out, hbF.out⟩

end Go.Proofs.Ytnfhgnibjebmlaa

/-
  Words for the laws' marks on boards: a board of the call's own, each slice in a block of its own.-/
namespace Go.Proofs.Ytnfhgnibjebmlaa
set_option linter.unusedVariables false
set_option linter.unusedSimpArgs false
open Go.RowKit

section
variable {w w' w'' : World} {lo hi lo' hi' E sz n K cap g : Nat} {v u : Value} {cc cc' : Nat → Value} {c : Nat → Nat → Value}
theorem Only.mono (h : Only lo hi w w') (h1 : lo' ≤ lo) (h2 : hi ≤ hi') : Only lo' hi' w w' := ⟨h.os, h.tape, h.output, h.size, fun k a b => h.block k a (by omega)⟩
theorem OwnL.set (h : OwnL w lo hi E sz (.slice (some ⟨g, 0, none⟩) n cap) n K cc) {o : Nat} (ho : o < n * sz) (u : Value) : OwnL (w.setCell ⟨g, o, none⟩ u) lo hi E sz (.slice (some ⟨g, 0, none⟩) n cap) n K (fun p => if p = o then u else cc p) := by
  rcases h with ⟨rfl, _⟩ | ⟨g', cap', xs, h0, a1, a2, a3, a4, a5⟩
  · omega
  · injection h0 with e1 e2 e3
    injection e1 with e1
    injection e1 with e1
    subst e1 e3
    refine .inr ⟨g, cap, _, rfl, a1, a2, a3, (a4.stored o u).1, fun p hp hp' => ?_⟩
    have hl := a4.1
    by_cases h1 : p = o
    · subst h1
      simp only [if_true]
      exact List.getElem?_set_self (by omega)
    · simp only [h1, if_false]
      rw [List.getElem?_set_ne (by omega)]
      exact a5 p hp hp'
theorem Own.lf (h : Own w lo hi E sz v n n c) (hsz : 0 < sz) : OwnL w lo hi E sz v n (n * sz) (fun o => c (o / sz) (o % sz)) := by
  obtain ⟨xs, ⟨hl, h1⟩, h2, h3⟩ := h
  rcases h1 with ⟨rfl, rfl⟩ | ⟨g, cap, cur, rfl, hg, hh, hnc, r⟩
  · exact .inl ⟨rfl, none, 0, rfl⟩
  · refine .inr ⟨g, cap, xs, rfl, hg, h2 g rfl, hnc, ⟨hl, .inr ⟨g, cap, cur, rfl, hg, hh, hnc, r⟩⟩, fun o h _ => ?_⟩
    have h5 := h3 (o / sz) (o % sz) ((Nat.div_lt_iff_lt_mul hsz).2 h) (Nat.mod_lt _ hsz)
    rw [Nat.div_add_mod'] at h5
    exact h5
theorem OwnL.pin (h : OwnL w lo hi E sz v n K cc) (hlt : lo < hi) : ∃ b, lo ≤ b ∧ b < hi ∧ OwnL w b (b + 1) E sz v n K cc := by
  rcases h with h | ⟨g, cap, xs, rfl, h1, h2, h3, ⟨hl, h4⟩, h5⟩
  · exact ⟨lo, Nat.le_refl _, hlt, .inl h⟩
  · refine ⟨g, h1, h2, .inr ⟨g, cap, xs, rfl, Nat.le_refl _, Nat.lt_succ_self _, h3, ⟨hl, ?_⟩, h5⟩⟩
    rcases h4 with ⟨h4, h6⟩ | ⟨g', cap', cur, he, hg, hh, r⟩
    · cases h4
    · injection he with e1 e2 e3
      injection e1 with e1
      injection e1 with e1
      subst e1 e3
      exact .inr ⟨g, cap, cur, rfl, Nat.le_refl _, hh, r⟩
theorem OwnL.keep1 (h : OwnL w g (g + 1) E sz v n K cc) (hk : w'.heap[g]? = w.heap[g]?) : OwnL w' g (g + 1) E sz v n K cc := h.keep fun b h1 h2 => by
  obtain rfl : b = g := by omega
  exact hk
theorem OwnL.slf (h : OwnL w lo hi E sz v n (n * sz) (fun o => c (o / sz) (o % sz))) : Sl w lo hi sz v n c := h.sl fun i j _ hj => by
  show c ((i * sz + j) / sz) ((i * sz + j) % sz) = c i j
  have hsz : 0 < sz := by omega
  rw [Nat.mul_comm i sz, Nat.mul_add_div hsz, Nat.mul_add_mod, Nat.div_eq_of_lt hj, Nat.mod_eq_of_lt hj, Nat.add_zero]
end

/-- A board of the call's own: the block of the outer slice, the blocks of the inner ones. -/
structure OwnX (w : World) (γ : Nat) (β : Nat → Nat) (ck : Nat → Value) (v : Value) (n : Nat) (T : Nat → Tm) : Prop where
  own : OwnL w γ (γ + 1) 27 4 v n (n * 4) (fun o => tC T ck (o / 4) (o % 4))
  sub : ∀ i, i < n → OwnL w (β i) (β i + 1) 56 2 (ck i) (T i).n ((T i).n * 2) (fun o => iiC (T i).m (T i).b (o / 2) (o % 2))
  ne : ∀ i, i < n → β i ≠ γ
  inj : ∀ i j, i < n → j < n → i ≠ j → β i ≠ β j
/-- Where its blocks lie. -/
def OwnIn (lo hi γ : Nat) (β : Nat → Nat) (n : Nat) : Prop := (0 < n → lo ≤ γ ∧ γ < hi) ∧ ∀ i, i < n → lo ≤ β i ∧ β i < hi
def OwnT (w : World) (lo hi : Nat) (v : Value) (n : Nat) (T : Nat → Tm) : Prop := ∃ γ β ck, OwnX w γ β ck v n T ∧ OwnIn lo hi γ β n
section
variable {w w' : World} {lo hi lo' hi' n γ : Nat} {β : Nat → Nat} {ck : Nat → Value} {v : Value} {T T' : Nat → Tm}
theorem OwnX.keep (h : OwnX w γ β ck v n T) (h1 : 0 < n → w'.heap[γ]? = w.heap[γ]?) (h2 : ∀ i, i < n → w'.heap[β i]? = w.heap[β i]?) : OwnX w' γ β ck v n T where
  own := by
    rcases Nat.eq_zero_or_pos n with h0 | h0
    · subst h0
      obtain ⟨A, cap, rfl, _⟩ := h.own.open_
      exact .inl ⟨rfl, A, cap, rfl⟩
    · exact h.own.keep1 (h1 h0)
  sub := fun i hi => (h.sub i hi).keep1 (h2 i hi)
  ne := h.ne
  inj := h.inj
theorem OwnT.keep (h : OwnT w lo hi v n T) (hk : ∀ b, lo ≤ b → b < hi → w'.heap[b]? = w.heap[b]?) : OwnT w' lo hi v n T := by
  obtain ⟨γ, β, ck, h1, h2, h3⟩ := h
  exact ⟨γ, β, ck, h1.keep (fun h0 => hk _ (h2 h0).1 (h2 h0).2) (fun i hi => hk _ (h3 i hi).1 (h3 i hi).2), h2, h3⟩
theorem OwnT.below {B : Nat} (h : OwnT w lo hi v n T) (hb : Below B w w') (hB : hi ≤ B) : OwnT w' lo hi v n T := h.keep fun b _ h2 => hb.block b (by omega)
theorem OwnT.only (h : OwnT w lo' hi' v n T) (hO : Only lo hi w w') (hd : hi' ≤ lo ∨ hi ≤ lo') (hs : hi' ≤ w.heap.size) : OwnT w' lo' hi' v n T := h.keep fun b h1 h2 => hO.block b (by omega) (by omega)
theorem OwnT.mono (h : OwnT w lo hi v n T) (h1 : lo' ≤ lo) (h2 : hi ≤ hi') : OwnT w lo' hi' v n T := by
  obtain ⟨γ, β, ck, a, b, d⟩ := h
  exact ⟨γ, β, ck, a, fun h0 => by have := b h0; omega, fun i hi => by have := d i hi; omega⟩
theorem SlT.keep (h : SlT w lo hi v n T) (hk : ∀ b, lo ≤ b → b < hi → w'.heap[b]? = w.heap[b]?) : SlT w' lo hi v n T := by
  obtain ⟨ck, h1, h2⟩ := h
  exact ⟨ck, h1.keep hk, fun i hi => (h2 i hi).keep hk⟩
theorem SlT.only (h : SlT w lo' hi' v n T) (hO : Only lo hi w w') (hd : hi' ≤ lo ∨ hi ≤ lo') (hs : hi' ≤ w.heap.size) : SlT w' lo' hi' v n T := h.keep fun b h1 h2 => hO.block b (by omega) (by omega)
theorem OwnT.sl (h : OwnT w lo hi v n T) : SlT w lo hi v n T := by
  obtain ⟨γ, β, ck, h1, h2, h3⟩ := h
  refine ⟨ck, ?_, fun i hi => (h1.sub i hi).slf.mono (h3 i hi).1 (by have := h3 i hi; omega)⟩
  rcases Nat.eq_zero_or_pos n with h0 | h0
  · subst h0
    obtain ⟨A, cap, rfl, _⟩ := h1.own.open_
    exact ⟨A, cap, rfl, Nat.zero_le _, fun h => absurd h (Nat.lt_irrefl _)⟩
  · exact h1.own.slf.mono (h2 h0).1 (by have := h2 h0; omega)
theorem OwnT.nil_ (w : World) (lo hi : Nat) (T : Nat → Tm) : OwnT w lo hi (.slice none 0 0) 0 T :=
  ⟨lo, fun _ => lo, fun _ => .slice none 0 0, ⟨.inl ⟨rfl, none, 0, rfl⟩, fun i h => absurd h (Nat.not_lt_zero _), fun i h => absurd h (Nat.not_lt_zero _), fun i j h => absurd h (Nat.not_lt_zero _)⟩, fun h => absurd h (Nat.lt_irrefl _), fun i h => absurd h (Nat.not_lt_zero _)⟩
theorem OwnX.congr (h : OwnX w γ β ck v n T) (hT : ∀ i, i < n → T i = T' i) : OwnX w γ β ck v n T' where
  own := h.own.congr fun o ho => by
    have : o / 4 < n := by omega
    simp only [tC, hT _ this]
  sub := fun i hi => hT i hi ▸ h.sub i hi
  ne := h.ne
  inj := h.inj
theorem OwnT.congr (h : OwnT w lo hi v n T) (hT : ∀ i, i < n → T i = T' i) : OwnT w lo hi v n T' := by
  obtain ⟨γ, β, ck, a, b⟩ := h
  exact ⟨γ, β, ck, a.congr hT, b⟩
end

/-- The marks of a team, of a board. -/
def mkTm (q : Int) (T : Tm) : Tm := ⟨mT q, q + 1, q + 2, T.n, fun j => q + 3 + (j : Int) * 2, fun j => q + 3 + (j : Int) * 2 + 1⟩
def mkQ (q : Int) (T : Nat → Tm) : Nat → Int
  | 0 => q
  | k + 1 => mkQ q T k + 3 + ((T k).n : Int) * 2
def mkTS (q : Int) (T : Nat → Tm) : Nat → Tm := fun i => mkTm (mkQ q T i) (T i)
def mixTS (q : Int) (T : Nat → Tm) (k : Nat) : Nat → Tm := fun i => if i < k then mkTS q T i else T i
theorem mkQ_bd {q : Int} {T : Nat → Tm} {n : Nat} (h : ∀ i, i < n → (T i).n ≤ 1048576) : ∀ k, k ≤ n → q ≤ mkQ q T k ∧ mkQ q T k ≤ q + (k : Int) * 2097155
  | 0, _ => by simp [mkQ]
  | k + 1, hk => by
    have h1 := mkQ_bd (q := q) h k (by omega)
    have h2 := h k (by omega)
    simp only [mkQ]
    omega

end Go.Proofs.Ytnfhgnibjebmlaa

/-
  Walks: a board copied by the laws' own word: each slice in a block of its own.-/
namespace Go.Proofs.Ytnfhgnibjebmlaa
set_option linter.unusedVariables false
set_option linter.unusedSimpArgs false
open Go.RowKit

/-- The inner slices of the first k teams: each in a block of its own, from lo on. -/
def Subs (w : World) (lo : Nat) (β : Nat → Nat) (ck : Nat → Value) (T : Nat → Tm) (k : Nat) : Prop :=
  (∀ i, i < k → OwnL w (β i) (β i + 1) 56 2 (ck i) (T i).n ((T i).n * 2) (fun o => iiC (T i).m (T i).b (o / 2) (o % 2)) ∧ lo ≤ β i ∧ β i < w.heap.size) ∧ ∀ i j, i < k → j < k → i ≠ j → β i ≠ β j
section
variable {w w' : World} {lo k : Nat} {β : Nat → Nat} {ck : Nat → Value} {T : Nat → Tm}
theorem Subs.zero (w : World) (lo : Nat) (β : Nat → Nat) (ck : Nat → Value) (T : Nat → Tm) : Subs w lo β ck T 0 := ⟨fun i h => absurd h (Nat.not_lt_zero _), fun i j h => absurd h (Nat.not_lt_zero _)⟩
theorem Subs.keep (h : Subs w lo β ck T k) (hz : w.heap.size ≤ w'.heap.size) (hk : ∀ b, lo ≤ b → b < w.heap.size → w'.heap[b]? = w.heap[b]?) : Subs w' lo β ck T k :=
  ⟨fun i hi => by
    obtain ⟨a, b, c⟩ := h.1 i hi
    exact ⟨a.keep1 (hk _ b c), b, by omega⟩, h.2⟩
theorem Subs.below {B : Nat} (h : Subs w lo β ck T k) (hb : Below B w w') (hB : w.heap.size ≤ B) : Subs w' lo β ck T k := h.keep hb.size fun b _ h2 => hb.block b (by omega)
/-- One more, in a block from where the world ended. -/
theorem Subs.snoc {B : Nat} {u : Value} (h : Subs w lo β ck T k) (hz : ∀ i, i < k → β i < B) {b : Nat} (hb : B ≤ b) (hl : lo ≤ b) (hlt : b < w.heap.size) (ho : OwnL w b (b + 1) 56 2 u (T k).n ((T k).n * 2) (fun o => iiC (T k).m (T k).b (o / 2) (o % 2))) :
    Subs w lo (fun i => if i = k then b else β i) (fun i => if i = k then u else ck i) T (k + 1) := by
  refine ⟨fun i hi => ?_, fun i j hi hj hij => ?_⟩
  · by_cases h1 : i = k
    · subst h1
      simp only [if_true]
      exact ⟨ho, hl, hlt⟩
    · simp only [h1, if_false]
      exact h.1 i (by omega)
  · by_cases h1 : i = k
    · have h2 : ¬ j = k := by omega
      have := hz j (by omega)
      simp only [h1, h2, if_true, if_false]
      omega
    · by_cases h2 : j = k
      · have := hz i (by omega)
        simp only [h1, h2, if_true, if_false]
        omega
      · simp only [h1, h2, if_false]
        exact h.2 i j (by omega) (by omega) hij
theorem Subs.ownT {γ lo' hi n : Nat} {v : Value} (h : Subs w lo β ck T n) (ho : OwnL w γ (γ + 1) 27 4 v n (n * 4) (fun o => tC T ck (o / 4) (o % 4))) (hne : ∀ i, i < n → β i ≠ γ) (hg : 0 < n → lo' ≤ γ ∧ γ < hi) (hl : lo' ≤ lo) (hh : w.heap.size ≤ hi) : OwnT w lo' hi v n T :=
  ⟨γ, β, ck, ⟨ho, fun i hi => (h.1 i hi).1, hne, h.2⟩, hg, fun i hi => by
    obtain ⟨_, a, b⟩ := h.1 i hi
    omega⟩
end

end Go.Proofs.Ytnfhgnibjebmlaa

/-
  Walks: copies of a team, of a board, that share no memory.-/
namespace Go.Proofs.Ytnfhgnibjebmlaa
set_option linter.unusedVariables false
set_option linter.unusedSimpArgs false
open Go.RowKit

theorem infoChk : (Try.prog.info? 56).map (fun i => (i.zero, i.size, i.bytes)) = some (some (.agg #[.int .i64 0, .int .i64 0]), 2, 16) := by kernel_rfl
theorem chk_one {m b : Nat → Int} {n : Nat} {u : Value} (h : u ∈ rowL (iiC m b) 2 n) : u.oneCell' = true := by
  obtain ⟨i, j, _, hj, rfl⟩ := rowL_mem h
  match j, hj with
  | 0, _ => rfl
  | 1, _ => rfl
set_option maxRecDepth 100000 in
set_option maxHeartbeats 1600000 in
theorem CloneCheck_any (m b : Nat → Int) (n lo hi : Nat) (v : Value) (w : World) (hv : Sl w lo hi 2 v n (iiC m b)) (hhi : hi ≤ w.heap.size) (hn : 0 < n) (hn' : n ≤ 1048576) :
    Calls Try.prog 68 #[v] w fun e w' => ∃ v', e = .returned v' ∧ Own w' w.heap.size w'.heap.size 56 2 v' n n (iiC m b) ∧ Below w.heap.size w w' := by
  obtain ⟨A, cap, rfl, hcap, hA⟩ := hv.open_
  obtain ⟨blk, off, rfl, h1, h2, h3⟩ := hA hn
  obtain ⟨ii, hii, iz0, iz1, iz2⟩ := info_parts infoChk
  have HV := hide hv
  clear hA h3 hv
  have hq : ∀ w, Sem.run Try.prog (binOp .eql 25 (.slice (some ⟨blk, off, none⟩) n cap) (.slice none 0 0)) w = .ok (.bool false) w := fun w => Lib.run_eql_slice_nil w _ 56 _ _ _ _ _ Try.underlying25
  go_enter Try.func68, Try.ntmps68
  go_wp2_with (at_builtin; refine wpList_append_own _ rfl _ _ 25 rfl w.heap.size 56 ii (.agg #[.int .i64 0, .int .i64 0]) 2 16 Try.underlying25 hii iz0 iz1 iz2 rfl (by decide) (.slice (some ⟨w.heap.size, 0, none⟩) 0 0) 0 [] rfl (World.ownsRow_made w #[] 0 (Nat.le_refl _) (Nat.zero_le _) rfl) ⟨blk, off, none⟩ n cap (rowL (iiC m b) 2 n) rfl (rowL_len _ _ _) ?_ (fun u hu => chk_one hu) ?_ ?_ ?_ ?_)
  · exact (HV.out.below (B := w.heap.size) (by repeat (first | (with_reducible exact Below.refl _ _) | (with_reducible refine below_ov ?_ ?_) | (with_reducible refine Below.setCell ?_ ?_ _) | (with_reducible refine Below.alloc ?_ ?_ _) | (with_reducible refine Below.drew ?_) | (with_reducible refine below_drewN ?_ _) | (refine Below.trans ?_ (Below.mono ‹Below _ _ _› (by first | omega | (simp; done) | (simp; omega)))) | exact Below.refl _ _ | omega | (focus (simp; done)) | (focus (simp; omega)))) hhi).news
  · unfold maxLen; omega
  · omega
  · simp
  intro v' w1 hown hg _
  have hb1 : Below w.heap.size w w1 := ((Below.refl _ _).alloc (Nat.le_refl _) _).grown hg (by simp) (fun k h => by simp [Value.ownBlock] at h; omega)
  (try simp only [Nat.zero_add, List.nil_append] at hown)
  obtain ⟨B, cp, rfl⟩ := row_form hown
  have HO := hide hown
  clear hown hg
  go_wp2_with fail
  go_ret
  exact ⟨_, rfl, own_row HO.out, hb1⟩
set_option maxRecDepth 100000 in
set_option maxHeartbeats 1600000 in
theorem copyTeam_any (T : Tm) (lo hi : Nat) (vc : Value) (w : World) (hs : Sl w lo hi 2 vc T.n (iiC T.m T.b)) (hhi : hi ≤ w.heap.size) (hn : 0 < T.n) (hf : T.fits) :
    Calls Try.prog 39 #[.agg #[.string T.s, .int .i64 T.v, .int .i64 T.y, vc]] w fun e w' => ∃ u, e = .returned (.agg #[.string T.s, .int .i64 T.v, .int .i64 T.y, u]) ∧ Own w' w.heap.size w'.heap.size 56 2 u T.n T.n (iiC T.m T.b) ∧ w.heap.size < w'.heap.size ∧ Below w.heap.size w w' := by
  obtain ⟨A, cap, rfl, hcap, _⟩ := hs.open_
  go_enter Try.func39, Try.ntmps39
  go_wp2_with fail
  refine (CloneCheck_any T.m T.b T.n lo hi _ _ (hs.below (B := w.heap.size) (by repeat (first | (with_reducible exact Below.refl _ _) | (with_reducible refine below_ov ?_ ?_) | (with_reducible refine Below.setCell ?_ ?_ _) | (with_reducible refine Below.alloc ?_ ?_ _) | (with_reducible refine Below.drew ?_) | (with_reducible refine below_drewN ?_ _) | (refine Below.trans ?_ (Below.mono ‹Below _ _ _› (by first | omega | (simp; done) | (simp; omega)))) | exact Below.refl _ _ | omega | (focus (simp; done)) | (focus (simp; omega)))) hhi) (by first | omega | (simp; done) | (simp; omega)) hn hf.2).mono ?_
  rintro e w1 ⟨u1, rfl, ho1, hb1⟩
  have hz1 := hb1.size
  simp at hz1
  obtain ⟨A1, k1, rfl, hk1, _⟩ := ho1.sl.open_
  obtain ⟨hcw1, hfw1⟩ := bcell hb1
  have o0 : w1.cell? ⟨w.heap.size, 0, none⟩ = some (.string T.s) := (hb1.cell (p := ⟨w.heap.size, 0, none⟩) (by simp <;> omega)).trans ((World.cell?_alloc_lt _ _ _ (by simp)).trans (World.cell?_alloc_new _ _ _ _))
  have o1 : w1.cell? ⟨w.heap.size, 1, none⟩ = some (.int .i64 T.v) := (hb1.cell (p := ⟨w.heap.size, 1, none⟩) (by simp <;> omega)).trans ((World.cell?_alloc_lt _ _ _ (by simp)).trans (World.cell?_alloc_new _ _ _ _))
  have o2 : w1.cell? ⟨w.heap.size, 2, none⟩ = some (.int .i64 T.y) := (hb1.cell (p := ⟨w.heap.size, 2, none⟩) (by simp <;> omega)).trans ((World.cell?_alloc_lt _ _ _ (by simp)).trans (World.cell?_alloc_new _ _ _ _))
  have o3 : w1.cell? ⟨w.heap.size, 3, none⟩ = some (.slice A T.n cap) := (hb1.cell (p := ⟨w.heap.size, 3, none⟩) (by simp <;> omega)).trans ((World.cell?_alloc_lt _ _ _ (by simp)).trans (World.cell?_alloc_new _ _ _ _))
  have r0 : w1.cell? ⟨w.heap.size + 1, 0, none⟩ = some (.string ⟨#[]⟩) := (hb1.cell (p := ⟨w.heap.size + 1, 0, none⟩) (by simp <;> omega)).trans (World.cell?_alloc_at _ _ _ _ (by simp))
  have r1 : w1.cell? ⟨w.heap.size + 1, 1, none⟩ = some (.int .i64 0) := (hb1.cell (p := ⟨w.heap.size + 1, 1, none⟩) (by simp <;> omega)).trans (World.cell?_alloc_at _ _ _ _ (by simp))
  have r2 : w1.cell? ⟨w.heap.size + 1, 2, none⟩ = some (.int .i64 0) := (hb1.cell (p := ⟨w.heap.size + 1, 2, none⟩) (by simp <;> omega)).trans (World.cell?_alloc_at _ _ _ _ (by simp))
  have r3 : w1.cell? ⟨w.heap.size + 1, 3, none⟩ = some (.slice none 0 0) := (hb1.cell (p := ⟨w.heap.size + 1, 3, none⟩) (by simp <;> omega)).trans (World.cell?_alloc_at _ _ _ _ (by simp))
  have q1 : ∀ o, w1.frozen? ⟨w.heap.size, o, none⟩ = false := fun o => (hfw1 _ _ (by first | omega | (simp; done) | (simp; omega))).trans (by simp [go_sem])
  have q2 : ∀ o, w1.frozen? ⟨w.heap.size + 1, o, none⟩ = false := fun o => (hfw1 _ _ (by first | omega | (simp; done) | (simp; omega))).trans (by simp [go_sem])
  clear hcw1 hfw1
  have HO := hide ho1
  clear ho1
  go_wp2_with fail
  refine bodyPost_ret (v := .agg #[.string T.s, .int .i64 T.v, .int .i64 T.y, .slice A1 T.n k1]) (by simp [results, Try.results39, go_sem, r0, r1, r2, r3, o0, o1, o2, o3]) rfl ⟨_, rfl, ?_, ?_, ?_⟩
  · refine Own.mono (lo := w.heap.size + 1 + 1) (hi := w1.heap.size) ?_ (by omega) (by simp [World.setCell])
    repeat (refine Own.aside ?_ (by simp; try omega) _)
    simpa using HO.out
  · simp [World.setCell]; omega
  · exact (by repeat (first | (with_reducible exact Below.refl _ _) | (with_reducible refine below_ov ?_ ?_) | (with_reducible refine Below.setCell ?_ ?_ _) | (with_reducible refine Below.alloc ?_ ?_ _) | (with_reducible refine Below.drew ?_) | (with_reducible refine below_drewN ?_ _) | (refine Below.trans ?_ (Below.mono ‹Below _ _ _› (by first | omega | (simp; done) | (simp; omega)))) | exact Below.refl _ _ | omega | (focus (simp; done)) | (focus (simp; omega))))
set_option maxRecDepth 100000 in
set_option maxHeartbeats 1600000 in
theorem enOwn_any (T : Tm) (lo hi : Nat) (vc : Value) (w : World) (hs : Sl w lo hi 2 vc T.n (iiC T.m T.b)) (hhi : hi ≤ w.heap.size) (hn : 0 < T.n) (hf : T.fits) :
    Calls Try.prog 44 #[.agg #[.string T.s, .int .i64 T.v, .int .i64 T.y, vc]] w fun e w' => ∃ u, e = .returned (.agg #[.string T.s, .int .i64 T.v, .int .i64 T.y, u]) ∧ Own w' w.heap.size w'.heap.size 56 2 u T.n T.n (iiC T.m T.b) ∧ w.heap.size < w'.heap.size ∧ Below w.heap.size w w' := by
  obtain ⟨A, cap, rfl, hcap, hA⟩ := hs.open_
  obtain ⟨blk, off, rfl, h1, h2, _⟩ := hA hn
  have HV := hide hs
  clear hA hs
  go_enter Try.func44, Try.ntmps44
  obtain ⟨ii, hii, iz0, iz1, iz2⟩ := info_parts infoChk
  have ht : T.n ≤ 1048576 := hf.2
  go_wp2_with (at_builtin; refine wpList_append_own _ rfl _ _ 25 rfl (w.heap.size + 1 + 1) 56 ii (.agg #[.int .i64 0, .int .i64 0]) 2 16 Try.underlying25 hii iz0 iz1 iz2 rfl (by decide) (.slice (some ⟨w.heap.size + 1 + 1, 0, none⟩) 0 0) 0 [] (by simp [Act.eval]) (by simpa using World.ownsRow_made ((w.alloc (.cells #[.string T.s, .int .i64 T.v, .int .i64 T.y, .slice (some ⟨blk, off, none⟩) T.n cap] 27)).alloc (.cells #[.string ⟨#[]⟩, .int .i64 0, .int .i64 0, .slice none 0 0] 27)) (base := w.heap.size + 1 + 1) (e := 56) (size := 2) #[] 0 (by simp) (Nat.zero_le _) rfl) ⟨blk, off, none⟩ T.n cap (rowL (iiC T.m T.b) 2 T.n) rfl (rowL_len _ _ _) ?_ (fun u hu => chk_one hu) ?_ ?_ ?_ ?_)
  · exact (HV.out.below (B := w.heap.size) (by repeat (first | (with_reducible exact Below.refl _ _) | (with_reducible refine below_ov ?_ ?_) | (with_reducible refine Below.setCell ?_ ?_ _) | (with_reducible refine Below.alloc ?_ ?_ _) | (with_reducible refine Below.drew ?_) | (with_reducible refine below_drewN ?_ _) | (refine Below.trans ?_ (Below.mono ‹Below _ _ _› (by first | omega | (simp; done) | (simp; omega)))) | exact Below.refl _ _ | omega | (focus (simp; done)) | (focus (simp; omega)))) hhi).news
  · unfold maxLen; omega
  · omega
  · simp
  intro v' w1 hown hg _
  have hb1 : Below (w.heap.size + 1 + 1) ((w.alloc (.cells #[.string T.s, .int .i64 T.v, .int .i64 T.y, .slice (some ⟨blk, off, none⟩) T.n cap] 27)).alloc (.cells #[.string ⟨#[]⟩, .int .i64 0, .int .i64 0, .slice none 0 0] 27)) w1 := ((Below.refl _ _).alloc (by simp) _).grown hg (by simp) (fun k h => by simp [Value.ownBlock] at h; omega)
  have hz1 := hb1.size
  simp at hz1
  (try simp only [Nat.zero_add, List.nil_append] at hown)
  obtain ⟨A1, k1, rfl⟩ := row_form hown
  have HO := hide (own_row hown)
  have hcw1 : ∀ b o, b < w.heap.size + 1 + 1 → w1.cell? ⟨b, o, none⟩ = ((w.alloc (.cells #[.string T.s, .int .i64 T.v, .int .i64 T.y, .slice (some ⟨blk, off, none⟩) T.n cap] 27)).alloc (.cells #[.string ⟨#[]⟩, .int .i64 0, .int .i64 0, .slice none 0 0] 27)).cell? ⟨b, o, none⟩ := fun b o h => hb1.cell (p := ⟨b, o, none⟩) h
  have hfw1 : ∀ b o, b < w.heap.size + 1 + 1 → w1.frozen? ⟨b, o, none⟩ = ((w.alloc (.cells #[.string T.s, .int .i64 T.v, .int .i64 T.y, .slice (some ⟨blk, off, none⟩) T.n cap] 27)).alloc (.cells #[.string ⟨#[]⟩, .int .i64 0, .int .i64 0, .slice none 0 0] 27)).frozen? ⟨b, o, none⟩ := fun b o h => hb1.frozen (p := ⟨b, o, none⟩) h
  clear hown hg
  have o0 : w1.cell? ⟨w.heap.size, 0, none⟩ = some (.string T.s) := (hb1.cell (p := ⟨w.heap.size, 0, none⟩) (by simp <;> omega)).trans ((World.cell?_alloc_lt _ _ _ (by simp)).trans (World.cell?_alloc_new _ _ _ _))
  have o1 : w1.cell? ⟨w.heap.size, 1, none⟩ = some (.int .i64 T.v) := (hb1.cell (p := ⟨w.heap.size, 1, none⟩) (by simp <;> omega)).trans ((World.cell?_alloc_lt _ _ _ (by simp)).trans (World.cell?_alloc_new _ _ _ _))
  have o2 : w1.cell? ⟨w.heap.size, 2, none⟩ = some (.int .i64 T.y) := (hb1.cell (p := ⟨w.heap.size, 2, none⟩) (by simp <;> omega)).trans ((World.cell?_alloc_lt _ _ _ (by simp)).trans (World.cell?_alloc_new _ _ _ _))
  have o3 : w1.cell? ⟨w.heap.size, 3, none⟩ = some (.slice (some ⟨blk, off, none⟩) T.n cap) := (hb1.cell (p := ⟨w.heap.size, 3, none⟩) (by simp <;> omega)).trans ((World.cell?_alloc_lt _ _ _ (by simp)).trans (World.cell?_alloc_new _ _ _ _))
  have r0 : w1.cell? ⟨w.heap.size + 1, 0, none⟩ = some (.string ⟨#[]⟩) := (hb1.cell (p := ⟨w.heap.size + 1, 0, none⟩) (by simp <;> omega)).trans (World.cell?_alloc_at _ _ _ _ (by simp))
  have r1 : w1.cell? ⟨w.heap.size + 1, 1, none⟩ = some (.int .i64 0) := (hb1.cell (p := ⟨w.heap.size + 1, 1, none⟩) (by simp <;> omega)).trans (World.cell?_alloc_at _ _ _ _ (by simp))
  have r2 : w1.cell? ⟨w.heap.size + 1, 2, none⟩ = some (.int .i64 0) := (hb1.cell (p := ⟨w.heap.size + 1, 2, none⟩) (by simp <;> omega)).trans (World.cell?_alloc_at _ _ _ _ (by simp))
  have r3 : w1.cell? ⟨w.heap.size + 1, 3, none⟩ = some (.slice none 0 0) := (hb1.cell (p := ⟨w.heap.size + 1, 3, none⟩) (by simp <;> omega)).trans (World.cell?_alloc_at _ _ _ _ (by simp))
  have q1 : ∀ o, w1.frozen? ⟨w.heap.size, o, none⟩ = false := fun o => (hfw1 _ _ (by first | omega | (simp; done) | (simp; omega))).trans (by simp [go_sem])
  have q2 : ∀ o, w1.frozen? ⟨w.heap.size + 1, o, none⟩ = false := fun o => (hfw1 _ _ (by first | omega | (simp; done) | (simp; omega))).trans (by simp [go_sem])
  clear hcw1 hfw1
  go_wp2_with fail
  refine bodyPost_ret (v := .agg #[.string T.s, .int .i64 T.v, .int .i64 T.y, .slice A1 T.n k1]) (by simp [results, Try.results44, go_sem, r0, r1, r2, r3, o0, o1, o2, o3]) rfl ⟨_, rfl, ?_, ?_, ?_⟩
  · refine Own.mono (lo := w.heap.size + 1 + 1) (hi := w1.heap.size) ?_ (by omega) (by simp [World.setCell])
    repeat (refine Own.aside ?_ (by simp; try omega) _)
    simpa using HO.out
  · simp [World.setCell]; omega
  · exact (by repeat (first | (with_reducible exact Below.refl _ _) | (with_reducible refine below_ov ?_ ?_) | (with_reducible refine Below.setCell ?_ ?_ _) | (with_reducible refine Below.alloc ?_ ?_ _) | (with_reducible refine Below.drew ?_) | (with_reducible refine below_drewN ?_ _) | (refine Below.trans ?_ (Below.mono ‹Below _ _ _› (by first | omega | (simp; done) | (simp; omega)))) | exact Below.refl _ _ | omega | (focus (simp; done)) | (focus (simp; omega))))

end Go.Proofs.Ytnfhgnibjebmlaa
