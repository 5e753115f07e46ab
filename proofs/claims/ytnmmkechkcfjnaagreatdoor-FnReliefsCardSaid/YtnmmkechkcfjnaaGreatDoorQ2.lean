/-
  Texts of this proof, one behind the other (part 2).
-/
import Derived.Test.YtnmmkechkcfjnaaGreatDoorQ1
import Derived.Still
/-
  Regions that draw their order, in which operations that only look stand beside operations that write, whose order is forced: one walk serves every order.-/
namespace Go.Proofs.YtnmmkechkcfjnaaGreatDoor
set_option linter.unusedVariables false
set_option linter.unusedSimpArgs false
open Go

section
variable {P : Program} {ops : Array Oper} {md : Region.Mode} {C : World → Prop} {Q : Act → World → Prop}

/-- An operation has run: a value and a world; a call that hands back a value. -/
def goesUpon (P : Program) (R : Value → World → Prop) : Result Next → Prop
  | .ok (.value u) w' => R u w'
  | .ok .skip w' => R undef w'
  | .ok (.enter f args) w' => Calls P f args w' (fun e w'' => ∃ v, e = .returned v ∧ R v w'')
  | _ => False
theorem goesUpon_mono {R R' : Value → World → Prop} (h : ∀ v w, R v w → R' v w) {r : Result Next} (hh : goesUpon P R r) : goesUpon P R' r := by
  cases r with
  | ok n w' =>
    cases n <;> simp only [goesUpon] at hh ⊢
    case value u => exact h _ _ hh
    case skip => exact h _ _ hh
    case enter f args => exact hh.mono fun e w'' ⟨v, he, hr⟩ => ⟨v, he, h _ _ hr⟩
  | halt x w' => simp only [goesUpon] at hh
def eOp (P : Program) (ops : Array Oper) (i : Nat) (K : Act → World → Prop) (a : Act) (w : World) : Prop :=
  match ops[i]? with
  | none => K a w
  | some o => if Region.wanted o (yielded ops a.tmps) = true then goesUpon P (fun v w' => K (a.put o.dst v) w') ((execOp a.eval o).run P w) else K (a.put o.dst undef) w
theorem eOp_mono {i : Nat} {K K' : Act → World → Prop} {a : Act} {w : World} (h : ∀ a w, K a w → K' a w) (hh : eOp P ops i K a w) : eOp P ops i K' a w := by
  unfold eOp at *
  split
  · exact h _ _ (by simpa [*] using hh)
  · rename_i o ho
    simp only [ho] at hh
    split
    · rename_i hw; simp only [hw, if_true] at hh; exact goesUpon_mono (fun v w hr => h _ _ hr) hh
    · rename_i hw; simp only [hw] at hh; exact h _ _ hh
theorem wpOp_of_eOp {i : Nat} {K : Act → World → Prop} {Q' : Exit → Act → World → Prop} {a : Act} {w : World} (hh : eOp P ops i K a w) : wpOp P ops Q' i K a w := by
  unfold eOp at hh
  unfold wpOp
  split
  · rename_i ho; simp only [ho] at hh; exact hh
  · rename_i o ho
    simp only [ho] at hh
    split
    · rename_i hw
      simp only [hw, if_true] at hh
      refine .inl ?_
      unfold Oper.wp
      generalize (execOp a.eval o).run P w = r at *
      cases r with
      | ok n w' =>
        cases n <;> simp only [goesUpon] at hh <;> simp only [Oper.upon]
        case value u => exact hh
        case skip => exact hh
        case enter f args => exact hh.mono fun e w'' ⟨v, he, hr⟩ => by subst he; exact hr
      | halt x w' => simp only [goesUpon] at hh
    · rename_i hw; simp only [hw] at hh; exact hh
/-- In whatever order. -/
def wpAnyM (P : Program) (md : Region.Mode) (ops : Array Oper) (C : World → Prop) (Q : Act → World → Prop) : Nat → Array Bool → Act → World → Prop
  | 0, listed, a, w => Region.ready md ops listed = [] ∧ Q a w
  | fuel + 1, listed, a, w => (Region.ready md ops listed = [] → Q a w) ∧ ∀ i ∈ Region.ready md ops listed, eOp P ops i (fun a' w' => C w' ∧ wpAnyM P md ops C Q fuel (listed.setIfInBounds i true) a' w') a w
theorem wpAny_of_M {Q' : Exit → Act → World → Prop} (hQ : ∀ a w, Q a w → Q' .normal a w) : ∀ (fuel : Nat) (listed : Array Bool) (a : Act) (w : World), wpAnyM P md ops C Q fuel listed a w → wpAny P md ops Q' fuel listed a w
  | 0, _, _, _, h => ⟨h.1, hQ _ _ h.2⟩
  | fuel + 1, _, _, _, h => ⟨fun h0 => hQ _ _ (h.1 h0), fun i hi => wpOp_of_eOp (eOp_mono (fun a' w' h' => wpAny_of_M hQ fuel _ a' w' h'.2) (h.2 i hi))⟩
/-- In every world of the class the operation yields this value and leaves the world alone. -/
def YieldsAll (P : Program) (ops : Array Oper) (C : World → Prop) (o : Oper) (v : Value) (a : Act) : Prop :=
  (Region.wanted o (yielded ops a.tmps) = true ∧ ∀ w, C w → (execOp a.eval o).run P w = .ok (.value v) w) ∨ (Region.wanted o (yielded ops a.tmps) = false ∧ v = undef)
theorem YieldsAll.of_same {o : Oper} {v : Value} {a a' : Act} (hy : YieldsAll P ops C o v a) (he : execOp a'.eval o = execOp a.eval o)
    (hw : Region.wanted o (yielded ops a'.tmps) = Region.wanted o (yielded ops a.tmps)) : YieldsAll P ops C o v a' := by
  unfold YieldsAll at *
  rw [he, hw]
  exact hy
theorem YieldsAll.eOp {i : Nat} {o : Oper} {v : Value} {a : Act} {w : World} (hi : ops[i]? = some o) (hy : YieldsAll P ops C o v a) (hC : C w) {K : Act → World → Prop} (h : K (a.put o.dst v) w) : eOp P ops i K a w := by
  unfold Go.Proofs.YtnmmkechkcfjnaaGreatDoor.eOp
  simp only [hi]
  rcases hy with ⟨hw, hv⟩ | ⟨hw, rfl⟩
  · simp only [hw, if_true, hv w hC, goesUpon]; exact h
  · simp only [hw, Bool.false_eq_true, if_false]; exact h
theorem eOp_put {j : Nat} {oi oj : Oper} {v : Value} (hj : ops[j]? = some oj) (hap : oi.apart ops oj = true)
    (hsi : ∀ cs b, oi.op ≠ .select cs b) (hsj : ∀ cs b, oj.op ≠ .select cs b) {K : Act → World → Prop} {a : Act} {w : World}
    (hy : YieldsAll P ops C oi v a) (h : eOp P ops j K (a.put oi.dst v) w) :
    eOp P ops j (fun a' w' => YieldsAll P ops C oi v a' ∧ K (a'.put oi.dst v) w') a w := by
  obtain ⟨h1, h2, h3⟩ := Oper.apart_spec hap
  have keep : ∀ (a : Act), YieldsAll P ops C oi v a → ∀ u, YieldsAll P ops C oi v (a.put oj.dst u) := fun a hy u =>
    hy.of_same (execOp_put oi hsi a oj.dst u h3) (wanted_put oi a oj.dst u h3)
  unfold eOp at *
  simp only [hj] at *
  rw [wanted_put oj a oi.dst v h1] at h
  split
  · rename_i hw
    simp only [hw, if_true] at h
    rw [execOp_put oj hsj a oi.dst v h1] at h
    refine goesUpon_mono (fun u w' hk => ⟨keep a hy u, ?_⟩) h
    rw [← Act.put_comm a v u h2]
    exact hk
  · rename_i hw
    simp only [hw] at h
    exact ⟨keep a hy _, by rw [← Act.put_comm a v undef h2]; exact h⟩
/-- An operation that only looks may be taken first. -/
theorem wpAnyM_first {i : Nat} {oi : Oper} {v : Value} (hi : ops[i]? = some oi) (hsel : ∀ (j : Nat) (o : Oper) cs b, ops[j]? = some o → o.op ≠ .select cs b) :
    ∀ (fuel : Nat) (listed : Array Bool) (a : Act) (w : World), C w →
      (∀ j oj, ops[j]? = some oj → j ≠ i → listed.getD j true = false → (∀ e ∈ oj.after, Region.binds md e = true → e.on ≠ i) → oi.apart ops oj = true) →
      i ∈ Region.ready md ops listed → YieldsAll P ops C oi v a →
      wpAnyM P md ops C Q fuel (listed.setIfInBounds i true) (a.put oi.dst v) w → wpAnyM P md ops C Q (fuel + 1) listed a w := by
  intro fuel
  induction fuel with
  | zero =>
    intro listed a w hC hfree hr hy H
    refine ⟨fun h => (by rw [h] at hr; cases hr), fun j hj => ?_⟩
    by_cases hji : j = i
    · subst hji; exact hy.eOp hi hC ⟨hC, H⟩
    · have := ready_mono hj hji
      rw [H.1] at this
      cases this
  | succ fuel ih =>
    intro listed a w hC hfree hr hy H
    refine ⟨fun h => (by rw [h] at hr; cases hr), fun j hj => ?_⟩
    by_cases hji : j = i
    · subst hji; exact hy.eOp hi hC ⟨hC, H⟩
    · have h1 := H.2 j (ready_mono hj hji)
      obtain ⟨hjun, oj, hoj, hall⟩ := mem_ready.1 hj
      have hnot : ∀ e ∈ oj.after, Region.binds md e = true → e.on ≠ i := fun e he hb heq => by
        have h1 := hall e he hb
        have h0 := (mem_ready.1 hr).1
        rw [heq] at h1
        rcases Nat.lt_or_ge i listed.size with h' | h'
        · simp [h'] at h0 h1; rw [h0] at h1; cases h1
        · simp [Array.getElem?_eq_none h'] at h1
      have h2 := eOp_put hoj (hfree j oj hoj hji hjun hnot) (fun cs b => hsel i oi cs b hi) (fun cs b => hsel j oj cs b hoj) hy h1
      have hfree' : ∀ k ok, ops[k]? = some ok → k ≠ i → (listed.setIfInBounds j true).getD k true = false →
          (∀ e ∈ ok.after, Region.binds md e = true → e.on ≠ i) → oi.apart ops ok = true := fun k ok hk hki hun hno => by
        refine hfree k ok hk hki ?_ hno
        by_cases hjk : j = k
        · subst hjk; exact hjun
        · rw [getD_set_ne true hjk] at hun; exact hun
      refine eOp_mono (fun a' w' h3 => ⟨h3.2.1, ih (listed.setIfInBounds j true) a' w' h3.2.1 hfree' (ready_mono hr (Ne.symm hji)) h3.1 ?_⟩) h2
      rw [Array.setIfInBounds_comm _ _ hji]
      exact h3.2.2
/-- The order that is walked: what only looks first; what writes when nothing else may come up. -/
def mixFrom (md : Region.Mode) (ops : Array Oper) : List (Nat × Bool) → Array Bool → Bool
  | [], listed => (Region.ready md ops listed).isEmpty
  | (k, b) :: r, listed => (if b then (Region.ready md ops listed).contains k && Region.free md ops listed k else Region.ready md ops listed == [k]) && mixFrom md ops r (listed.setIfInBounds k true)
def wpMix (P : Program) (ops : Array Oper) (C : World → Prop) (Q : Act → World → Prop) : List (Nat × Bool) → Act → World → Prop
  | [], a, w => Q a w
  | (k, true) :: r, a, w => ∃ o v, ops[k]? = some o ∧ YieldsAll P ops C o v a ∧ wpMix P ops C Q r (a.put o.dst v) w
  | (k, false) :: r, a, w => eOp P ops k (fun a' w' => C w' ∧ wpMix P ops C Q r a' w') a w
theorem wpAnyM_mix (hs : Region.noSelect ops = true) : ∀ (r : List (Nat × Bool)) (listed : Array Bool) (a : Act) (w : World), C w → mixFrom md ops r listed = true → wpMix P ops C Q r a w → wpAnyM P md ops C Q r.length listed a w
  | [], _, _, _, _, hB, h => ⟨by simpa [mixFrom] using hB, h⟩
  | (k, true) :: r, listed, a, w, hC, hB, h => by
    simp only [mixFrom, if_true, Bool.and_eq_true] at hB
    obtain ⟨⟨hr, hf⟩, hB'⟩ := hB
    obtain ⟨o, v, ho, hy, hK⟩ := h
    exact wpAnyM_first ho (Region.noSelect_spec hs) r.length listed a w hC (Region.free_spec ho hf) (by simpa using hr) hy (wpAnyM_mix hs r _ _ _ hC hB' hK)
  | (k, false) :: r, listed, a, w, hC, hB, h => by
    simp only [mixFrom, Bool.false_eq_true, if_false, Bool.and_eq_true, beq_iff_eq] at hB
    obtain ⟨hr, hB'⟩ := hB
    refine ⟨fun h0 => (by rw [hr] at h0; cases h0), fun i hi => ?_⟩
    rw [hr] at hi
    obtain rfl : i = k := by simpa using hi
    exact eOp_mono (fun a' w' h' => ⟨h'.1, wpAnyM_mix hs r _ a' w' h'.1 hB' h'.2⟩) h
theorem wp_region_mix {id : Nat} {Q : Exit → Act → World → Prop} {a : Act} {w : World} {l : List Oper} (r : List (Nat × Bool)) (C : World → Prop) (hm : P.follows .mixedOrders = true) (hs : Region.noSelect l.toArray = true) (hl : r.length = l.toArray.size)
    (hB : mixFrom .any l.toArray r (Array.replicate l.toArray.size false) = true) (hC : C { w with drawn := w.drawn + 1 })
    (h : wpMix P l.toArray C (fun a' w' => Q .normal a' w') r a { w with drawn := w.drawn + 1 }) : (Code.region id l.toArray true).wp P Q a w := by
  refine wp_region_any hm (wpAny_of_M (C := C) (Q := fun a' w' => Q .normal a' w') (fun _ _ h => h) _ _ _ _ ?_)
  rw [← hl]
  exact wpAnyM_mix hs r _ a _ hC (by rw [hl]; exact hB) h
theorem mix_look {k : Nat} {r : List (Nat × Bool)} {a : Act} {w : World} (o : Oper) (v : Value) (hk : ops[k]? = some o) (hw : Region.wanted o (yielded ops a.tmps) = true) (hv : ∀ w, C w → (execOp a.eval o).run P w = .ok (.value v) w)
    (h : wpMix P ops C Q r (a.put o.dst v) w) : wpMix P ops C Q ((k, true) :: r) a w := ⟨o, v, hk, .inl ⟨hw, hv⟩, h⟩
theorem mix_skip {k : Nat} {r : List (Nat × Bool)} {a : Act} {w : World} (o : Oper) (hk : ops[k]? = some o) (hw : Region.wanted o (yielded ops a.tmps) = false)
    (h : wpMix P ops C Q r (a.put o.dst undef) w) : wpMix P ops C Q ((k, true) :: r) a w := ⟨o, undef, hk, .inr ⟨hw, rfl⟩, h⟩
theorem mix_value {k : Nat} {r : List (Nat × Bool)} {a : Act} {w : World} (o : Oper) (v : Value) (w' : World) (hk : ops[k]? = some o) (hw : Region.wanted o (yielded ops a.tmps) = true) (hv : (execOp a.eval o).run P w = .ok (.value v) w') (hC : C w')
    (h : wpMix P ops C Q r (a.put o.dst v) w') : wpMix P ops C Q ((k, false) :: r) a w := by
  show eOp P ops k _ a w
  unfold eOp
  simp only [hk, hw, if_true, hv, goesUpon]
  exact ⟨hC, h⟩
theorem mix_call {k : Nat} {r : List (Nat × Bool)} {a : Act} {w : World} (o : Oper) (f : FuncId) (args : Array Value) (hk : ops[k]? = some o) (hw : Region.wanted o (yielded ops a.tmps) = true) (hv : (execOp a.eval o).run P w = .ok (.enter f args) w)
    (h : Calls P f args w fun e w'' => ∃ v, e = .returned v ∧ C w'' ∧ wpMix P ops C Q r (a.put o.dst v) w'') : wpMix P ops C Q ((k, false) :: r) a w := by
  show eOp P ops k _ a w
  unfold eOp
  simp only [hk, hw, if_true, hv, goesUpon]
  exact h
theorem wpMix_nil {a : Act} {w : World} (h : Q a w) : wpMix P ops C Q [] a w := h
theorem run_op_append {o : Oper} {a : Act} {w w' : World} {v u v' : Value} (s x : Operand) (t : TypeId) (ho : o.op = .call { callee := .builtin .append, args := #[s, x], argTypes := #[t, t] }) (hs : a.eval s = v) (hx : a.eval x = u)
    (hr : (Builtin.append_ #[t, t] o.type #[v, u]).run P w = .ok v' w') : (execOp a.eval o).run P w = .ok (.value v') w' := by
  unfold execOp
  simp only [ho, resolve, invoke, builtin, Sem.run_bind, Sem.run_pure, Result.andThen_ok, List.map_toArray, List.map_cons, List.map_nil, hs, hx, hr]
end

end Go.Proofs.YtnmmkechkcfjnaaGreatDoor

/-
  Walks: what the reference draws of periods: a crew's name, a period. Whatever it is.-/
namespace Go.Proofs.YtnmmkechkcfjnaaGreatDoor
set_option linter.unusedVariables false
set_option linter.unusedSimpArgs false
open Go.RowKit

theorem mix_put {P : Program} {ops : Array Oper} {C : World → Prop} {Q : Act → World → Prop} {k : Nat} {r : List (Nat × Bool)} {a : Act} {w : World} (o : Oper) (w' : World) (hk : ops[k]? = some o) (hw : Region.wanted o (yielded ops a.tmps) = true) (hv : (execOp a.eval o).run P w = .ok .skip w') (hC : C w')
    (h : wpMix P ops C Q r (a.put o.dst undef) w') : wpMix P ops C Q ((k, false) :: r) a w := by
  show eOp P ops k _ a w
  unfold eOp
  simp only [hk, hw, if_true, hv, goesUpon]
  exact ⟨hC, h⟩
/-- A box of a period. -/
structure BxP (w : World) (b : Nat) (s : ByteArray) (x y : Int) : Prop where
  c0 : w.cell? ⟨b, 0, none⟩ = some (.string s)
  c1 : w.cell? ⟨b, 1, none⟩ = some (.int .i64 x)
  c2 : w.cell? ⟨b, 2, none⟩ = some (.int .i64 y)
  fr : ∀ o, w.frozen? ⟨b, o, none⟩ = false
  lt : b < w.heap.size
section
variable {w w' : World} {b g : Nat} {s : ByteArray} {x y : Int}
theorem BxP.keep (h : BxP w b s x y) (hk : w'.heap[b]? = w.heap[b]?) (hs : w.heap.size ≤ w'.heap.size) : BxP w' b s x y :=
  ⟨(World.cell?_of_block (a := ⟨b, 0, none⟩) hk).trans h.c0, (World.cell?_of_block (a := ⟨b, 1, none⟩) hk).trans h.c1, (World.cell?_of_block (a := ⟨b, 2, none⟩) hk).trans h.c2, fun o => (World.frozen?_of_block (a := ⟨b, o, none⟩) hk).trans (h.fr o), by have := h.lt; omega⟩
theorem BxP.only (h : BxP w b s x y) (hO : Only g (g + 1) w w') (hne : b ≠ g) : BxP w' b s x y := h.keep (hO.block b h.lt (by omega)) hO.size
theorem BxP.bel (h : BxP w b s x y) (hb : Below w.heap.size w w') : BxP w' b s x y := h.keep (hb.block b h.lt) hb.size
theorem BxP.alloc (h : BxP w b s x y) (o : Obj) : BxP (w.alloc o) b s x y := h.keep (((Below.refl _ _).alloc (Nat.le_refl _) o).block b h.lt) (by simp)
theorem BxP.drew (h : BxP w b s x y) : BxP w.drew b s x y := ⟨h.c0, h.c1, h.c2, h.fr, h.lt⟩
theorem BxP.new (w : World) (s : ByteArray) (x y : Int) (t : TypeId) : BxP (w.alloc (.cells #[.string s, .int .i64 x, .int .i64 y] t)) w.heap.size s x y :=
  ⟨World.cell?_alloc_new _ _ _ _, World.cell?_alloc_new _ _ _ _, World.cell?_alloc_new _ _ _ _, fun o => by simp [go_sem], by simp⟩
theorem BxP.set0 (h : BxP w b s x y) (s' : ByteArray) : BxP (w.setCell ⟨b, 0, none⟩ (.string s')) b s' x y := by
  have h0 := h.c0; have h1 := h.c1; have h2 := h.c2
  exact ⟨by simp [go_sem, h0], by simp [go_sem, h1, h0], by simp [go_sem, h2, h0], fun o => by simp [go_sem, h.fr], by simp [World.setCell]; exact h.lt⟩
theorem BxP.set1 (h : BxP w b s x y) (x' : Int) : BxP (w.setCell ⟨b, 1, none⟩ (.int .i64 x')) b s x' y := by
  have h0 := h.c0; have h1 := h.c1; have h2 := h.c2
  exact ⟨by simp [go_sem, h0, h1], by simp [go_sem, h1], by simp [go_sem, h2, h1], fun o => by simp [go_sem, h.fr], by simp [World.setCell]; exact h.lt⟩
theorem BxP.set2 (h : BxP w b s x y) (y' : Int) : BxP (w.setCell ⟨b, 2, none⟩ (.int .i64 y')) b s x y' := by
  have h0 := h.c0; have h1 := h.c1; have h2 := h.c2
  exact ⟨by simp [go_sem, h0, h2], by simp [go_sem, h1, h2], by simp [go_sem, h2], fun o => by simp [go_sem, h.fr], by simp [World.setCell]; exact h.lt⟩
theorem BxP.other {b' : Nat} (h : BxP w b s x y) (hne : b ≠ b') (o : Nat) (v : Value) : BxP (w.setCell ⟨b', o, none⟩ v) b s x y := h.keep (Deep.blk_setCell_other _ _ _ _ hne) (by simp [World.setCell])
end
/-- A text of at most k bytes. -/
def isSm (k : Nat) : Value → Bool
  | .string s => decide (s.size ≤ k)
  | _ => false
theorem small_of {k : Nat} {s : ByteArray} {l : List Value} (h : .string s ∈ l) (ha : l.all (isSm k) = true) : s.size ≤ k := of_decide_eq_true (List.all_eq_true.1 ha _ h)
set_option maxRecDepth 100000 in
set_option maxHeartbeats 1600000 in
theorem crewName_any (g m : Nat) (w : World) (h : Cu w g m) (hm : m < 95000000) :
    Calls Tryz.prog 69 #[.pointer (some ⟨g, 0, none⟩)] w fun e w' => ∃ s : ByteArray, e = .returned (.string s) ∧ s.size ≤ 7 ∧ Cu w' g (m + 4) ∧ Only g (g + 1) w w' := by
  have hg := h.lt
  go_enter Tryz.func69, Tryz.ntmps69
  go_wp2_with fail
  refine (of_new g _ _ _ _ _ _ h (by first | (with_reducible rfl) | simp) (by omega) (by rfl) (by decide) (by decide) (by simp [isS])).mono ?_
  rintro e w1 ⟨s1, rfl, hM1, C1, o1⟩
  have hs1 : s1.size ≤ 7 := small_of hM1 (by simp [isSm]; try decide)
  clear hM1
  go_wp2_with fail
  refine (of_new g _ _ _ _ _ _ C1 (by first | (with_reducible rfl) | simp) (by omega) (by rfl) (by decide) (by decide) (by simp [isS])).mono ?_
  rintro e w2 ⟨s2, rfl, hM2, C2, o2⟩
  have hs2 : s2.size ≤ 7 := small_of hM2 (by simp [isSm, hs1]; try decide)
  clear hM2
  go_wp2_with fail
  go_ret
  exact ⟨_, rfl, hs2, C2, o1.trans o2⟩
/-- What a drawn period is. -/
def PrPost (g m : Nat) (w : World) (e : Ending) (w' : World) : Prop := ∃ (s : ByteArray) (x y : Int), e = .returned (.agg #[.string s, .int .i64 x, .int .i64 y]) ∧ s.size ≤ 7 ∧ Cu w' g m ∧ Only g (g + 1) w w'
set_option maxRecDepth 100000 in
set_option maxHeartbeats 6400000 in
theorem period_any (g m : Nat) (w : World) (h : Cu w g m) (hm : m < 90000000) :
    Calls Tryz.prog 44 #[.pointer (some ⟨g, 0, none⟩)] w (PrPost g (m + 30) w) := by
  have hg := h.lt
  have R0 := hide (BxP.new w ⟨#[]⟩ 0 0 38)
  have O0 : Only g (g + 1) w (w.alloc (.cells #[.string ⟨#[]⟩, .int .i64 0, .int .i64 0] 38)) := (Only.refl _ _ _).alloc _
  have C0 := h.alloc (.cells #[.string ⟨#[]⟩, .int .i64 0, .int .i64 0] 38)
  go_enter Tryz.func44, Tryz.ntmps44
  go_wp2_with fail
  refine (crewName_any g _ _ C0 (by omega)).mono ?_
  rintro e w1 ⟨s, rfl, hs, C1, o1⟩
  have R1 := hide (R0.out.only o1 (by omega))
  have O1 := O0.trans o1
  clear R0 O0 o1 C0
  go_wp2_with fail
  refine (pick_any g _ _ _ C1 (by omega)).mono ?_
  rintro e w2 ⟨v2, rfl, hv2, C2, o2⟩
  have R2 := hide (R1.out.only o2 (by omega))
  have O2 := O1.trans o2
  clear R1 O1 o2 C1
  have hz2 := R2.out.lt
  obtain ⟨x, hx⟩ : ∃ x, x = 10 * v2 := ⟨_, rfl⟩
  have zx : IntKind.i64.wrap (10 * v2) = x := by rw [hx]; exact IntWalk.i64_in _ (by omega)
  have hxb : 0 ≤ x ∧ x ≤ 300 := by omega
  clear hx hv2
  obtain ⟨W3, hW3⟩ : ∃ W, W = w2.alloc (.cells #[.string s, .int .i64 x, .int .i64 0] 38) := ⟨_, rfl⟩
  obtain ⟨pb, hpb⟩ : ∃ z, z = w2.heap.size := ⟨_, rfl⟩
  have P3 : Hid (BxP W3 pb s x 0) := by show BxP _ _ _ _ _; rw [hW3, hpb]; exact BxP.new _ _ _ _ _
  have R3 : Hid (BxP W3 w.heap.size ⟨#[]⟩ 0 0) := by show BxP _ _ _ _ _; rw [hW3]; exact R2.out.alloc _
  have C3 : Cu W3 g (m + 6) := by rw [hW3]; exact C2.alloc _
  have O3 : Only g (g + 1) w W3 := by rw [hW3]; exact O2.alloc _
  have hgp : g < pb ∧ w.heap.size < pb := by have := C2.lt; omega
  go_wp2_with fail
  rw [← hW3, ← hpb]
  clear hW3 hpb R2 C2 O2 hz2 zx
  refine wp_region_mix [(0, true), (1, true), (2, true), (3, false), (4, false), (5, true), (6, true), (7, false)] (fun W => W.cell? ⟨pb, 1, none⟩ = some (.int .i64 x)) (by kernel_rfl) (by kernel_rfl) (by kernel_rfl) (by kernel_rfl) P3.out.c1 ?_
  refine mix_look _ (.pointer (some ⟨pb, 1, none⟩)) rfl rfl (fun w' _ => (by go_simp)) ?_
  go_simp
  refine mix_look _ (.int .i64 x) rfl rfl (fun w' hw' => (by have hw2 : w'.cell? ⟨pb, 1, none⟩ = some (.int .i64 x) := hw'; go_simp)) ?_
  go_simp
  refine mix_look _ _ rfl rfl (fun w' _ => BigFrame.run_move _ rfl w') ?_
  go_simp
  refine mix_value _ (.slice (some ⟨W3.heap.size, 0, none⟩) 6 6) (W3.drew.alloc (.cells #[.int .i64 10, .int .i64 20, .int .i64 30, .int .i64 60, .int .i64 120, .int .i64 720] 3)) rfl rfl (by go_simp) (P3.out.drew.alloc _).c1 ?_
  go_simp
  refine mix_call _ 29 #[.pointer (some ⟨g, 0, none⟩), .slice (some ⟨W3.heap.size, 0, none⟩) 6 6] rfl rfl (by go_simp) ?_
  refine (among_new _ _ _ _ W3.drew _ _ C3.drew rfl (by omega) (by rfl) (by decide) (by decide) (by simp [isI])).mono ?_
  rintro e w4 ⟨v4, rfl, _, C4, o4'⟩
  have o4 : Only g (g + 1) W3 w4 := Only.trans (w' := W3.drew) ⟨rfl, rfl, rfl, Nat.le_refl _, fun _ _ _ => rfl⟩ o4'
  clear o4'
  have P4 := hide (P3.out.only o4 (by omega))
  have R4 := hide (R3.out.only o4 (by omega))
  have O4 := O3.trans o4
  clear P3 R3 O3 o4 C3
  refine ⟨_, rfl, P4.out.c1, ?_⟩
  go_simp
  refine mix_look _ (.int .i64 (IntKind.i64.wrap (x + v4))) rfl rfl (fun w' _ => (by go_simp)) ?_
  go_simp
  refine mix_look _ (.pointer (some ⟨pb, 2, none⟩)) rfl rfl (fun w' _ => (by go_simp)) ?_
  go_simp
  obtain ⟨p0, p1, p2, pf, pl⟩ := P4.out
  obtain ⟨y, hy⟩ : ∃ y, y = IntKind.i64.wrap (x + v4) := ⟨_, rfl⟩
  refine mix_put _ (w4.setCell ⟨pb, 2, none⟩ (.int .i64 (IntKind.i64.wrap (x + v4)))) rfl rfl (by go_simp) (P4.out.set2 _).c1 ?_
  go_simp
  refine wpMix_nil ?_
  clear p0 p1 p2 pf pl
  obtain ⟨W5, hW5⟩ : ∃ W, W = w4.setCell ⟨pb, 2, none⟩ (.int .i64 (IntKind.i64.wrap (x + v4))) := ⟨_, rfl⟩
  have P5 : Hid (BxP W5 pb s x y) := by show BxP _ _ _ _ _; rw [hW5, hy]; exact P4.out.set2 _
  have R5 : Hid (BxP W5 w.heap.size ⟨#[]⟩ 0 0) := by show BxP _ _ _ _ _; rw [hW5]; exact R4.out.other (by omega) _ _
  have C5 : Cu W5 g (m + 6 + 2) := by rw [hW5]; exact C4.set (by show g < pb; omega) _
  have O5 : Only g (g + 1) w W5 := by rw [hW5]; exact O4.setNew (by show w.heap.size ≤ pb; omega) _
  rw [← hW5]
  clear hW5 hy P4 R4 C4 O4
  go_wp2_with fail
  refine (pick_any g _ _ _ C5 (by omega)).mono ?_
  rintro e w6 ⟨v6, rfl, hv6, C6, o6⟩
  have P6 := hide (P5.out.only o6 (by omega))
  have R6 := hide (R5.out.only o6 (by omega))
  have O6 := O5.trans o6
  clear P5 R5 O5 o6 C5
  clear hv6
  by_cases e0 : v6 = 0
  · subst e0
    obtain ⟨p0, p1, p2, pf, pl⟩ := P6.out
    go_wp2_with fail
    clear p0 p1 p2 pf pl
    refine (among_new g _ _ _ _ _ _ C6 (by first | (with_reducible rfl) | simp) (by omega) (by rfl) (by decide) (by decide) (by simp [isI])).mono ?_
    rintro e wz ⟨vz, rfl, _, Cz, oz⟩
    have Pz := hide (P6.out.only oz (by omega))
    have Rz := hide (R6.out.only oz (by omega))
    have Oz := O6.trans oz
    clear P6 R6 O6 oz C6
    obtain ⟨p0, p1, p2, pf, pl⟩ := Pz.out
    have PF := hide (Pz.out.set2 vz)
    have RF := hide (Rz.out.other (b' := pb) (by omega) 2 (.int .i64 vz))
    have CF := Cz.set (p := ⟨pb, 2, none⟩) (by show g < pb; omega) (.int .i64 vz)
    have OF := Oz.setNew (a := ⟨pb, 2, none⟩) (by show w.heap.size ≤ pb; omega) (.int .i64 vz)
    clear Cz Oz p0 p1 p2 pf pl
    obtain ⟨p0, p1, p2, pf, pl⟩ := Pz.out
    obtain ⟨r0, r1, r2, rf, rl⟩ := Rz.out
    have CG : Hid (Cu ((((wz.setCell ⟨pb, 2, none⟩ (.int .i64 vz)).setCell ⟨w.heap.size, 0, none⟩ (.string s)).setCell ⟨w.heap.size, 1, none⟩ (.int .i64 x)).setCell ⟨w.heap.size, 2, none⟩ (.int .i64 vz)) g (m + 30)) := (((CF.set (by show g < w.heap.size; omega) _).set (by show g < w.heap.size; omega) _).set (by show g < w.heap.size; omega) _).more (by omega)
    have OG : Hid (Only g (g + 1) w ((((wz.setCell ⟨pb, 2, none⟩ (.int .i64 vz)).setCell ⟨w.heap.size, 0, none⟩ (.string s)).setCell ⟨w.heap.size, 1, none⟩ (.int .i64 x)).setCell ⟨w.heap.size, 2, none⟩ (.int .i64 vz))) := ((OF.setNew (by show w.heap.size ≤ w.heap.size; omega) _).setNew (by show w.heap.size ≤ w.heap.size; omega) _).setNew (by show w.heap.size ≤ w.heap.size; omega) _
    clear PF RF CF OF
    go_wp2_with fail
    exact bodyPost_ret (v := .agg #[.string s, .int .i64 x, .int .i64 vz]) (by simp [results, Tryz.results44, go_sem, *]) rfl ⟨_, _, _, rfl, hs, CG.out, OG.out⟩
  · have d0 : (v6 == 0) = false := by simp [e0]
    by_cases e1 : v6 = 1
    · subst e1
      go_wp2_with fail
      refine (among_new g _ _ _ _ _ _ C6 (by first | (with_reducible rfl) | simp) (by omega) (by rfl) (by decide) (by decide) (by simp [isI])).mono ?_
      rintro e w7 ⟨v7, rfl, _, C7, o7⟩
      have P7 := hide (P6.out.only o7 (by omega))
      have R7 := hide (R6.out.only o7 (by omega))
      have O7 := O6.trans o7
      clear P6 R6 O6 o7 C6
      go_wp2_with fail
      refine (among_new g _ _ _ _ _ _ C7 (by first | (with_reducible rfl) | simp) (by omega) (by rfl) (by decide) (by decide) (by simp [isI])).mono ?_
      rintro e w8 ⟨v8, rfl, _, C8, o8⟩
      have P8 := hide (P7.out.only o8 (by omega))
      have R8 := hide (R7.out.only o8 (by omega))
      have O8 := O7.trans o8
      clear P7 R7 O7 o8 C7
      have PF := hide (((P8.out.set0 ⟨#[97]⟩).set1 v7).set2 v8)
      have RF := hide (((R8.out.other (b' := pb) (by omega) 0 (.string ⟨#[97]⟩)).other (b' := pb) (by omega) 1 (.int .i64 v7)).other (b' := pb) (by omega) 2 (.int .i64 v8))
      have CF := ((C8.set (p := ⟨pb, 0, none⟩) (by show g < pb; omega) (.string ⟨#[97]⟩)).set (p := ⟨pb, 1, none⟩) (by show g < pb; omega) (.int .i64 v7)).set (p := ⟨pb, 2, none⟩) (by show g < pb; omega) (.int .i64 v8)
      have OF := ((O8.setNew (a := ⟨pb, 0, none⟩) (by show w.heap.size ≤ pb; omega) (.string ⟨#[97]⟩)).setNew (a := ⟨pb, 1, none⟩) (by show w.heap.size ≤ pb; omega) (.int .i64 v7)).setNew (a := ⟨pb, 2, none⟩) (by show w.heap.size ≤ pb; omega) (.int .i64 v8)
      clear C8 O8
      obtain ⟨p0, p1, p2, pf, pl⟩ := P8.out
      obtain ⟨r0, r1, r2, rf, rl⟩ := R8.out
      have CG : Hid (Cu ((((((w8.setCell ⟨pb, 0, none⟩ (.string ⟨#[97]⟩)).setCell ⟨pb, 1, none⟩ (.int .i64 v7)).setCell ⟨pb, 2, none⟩ (.int .i64 v8)).setCell ⟨w.heap.size, 0, none⟩ (.string ⟨#[97]⟩)).setCell ⟨w.heap.size, 1, none⟩ (.int .i64 v7)).setCell ⟨w.heap.size, 2, none⟩ (.int .i64 v8)) g (m + 30)) := (((CF.set (by show g < w.heap.size; omega) _).set (by show g < w.heap.size; omega) _).set (by show g < w.heap.size; omega) _).more (by omega)
      have OG : Hid (Only g (g + 1) w ((((((w8.setCell ⟨pb, 0, none⟩ (.string ⟨#[97]⟩)).setCell ⟨pb, 1, none⟩ (.int .i64 v7)).setCell ⟨pb, 2, none⟩ (.int .i64 v8)).setCell ⟨w.heap.size, 0, none⟩ (.string ⟨#[97]⟩)).setCell ⟨w.heap.size, 1, none⟩ (.int .i64 v7)).setCell ⟨w.heap.size, 2, none⟩ (.int .i64 v8))) := ((OF.setNew (by show w.heap.size ≤ w.heap.size; omega) _).setNew (by show w.heap.size ≤ w.heap.size; omega) _).setNew (by show w.heap.size ≤ w.heap.size; omega) _
      clear PF RF CF OF
      go_wp2_with fail
      exact bodyPost_ret (v := .agg #[.string ⟨#[97]⟩, .int .i64 v7, .int .i64 v8]) (by simp [results, Tryz.results44, go_sem, *]) rfl ⟨_, _, _, rfl, (by decide), CG.out, OG.out⟩
    · have d1 : (v6 == 1) = false := by simp [e1]
      obtain ⟨p0, p1, p2, pf, pl⟩ := P6.out
      obtain ⟨r0, r1, r2, rf, rl⟩ := R6.out
      have CG : Hid (Cu ((((w6).setCell ⟨w.heap.size, 0, none⟩ (.string s)).setCell ⟨w.heap.size, 1, none⟩ (.int .i64 x)).setCell ⟨w.heap.size, 2, none⟩ (.int .i64 y)) g (m + 30)) := (((C6.set (by show g < w.heap.size; omega) _).set (by show g < w.heap.size; omega) _).set (by show g < w.heap.size; omega) _).more (by omega)
      have OG : Hid (Only g (g + 1) w ((((w6).setCell ⟨w.heap.size, 0, none⟩ (.string s)).setCell ⟨w.heap.size, 1, none⟩ (.int .i64 x)).setCell ⟨w.heap.size, 2, none⟩ (.int .i64 y))) := ((O6.setNew (by show w.heap.size ≤ w.heap.size; omega) _).setNew (by show w.heap.size ≤ w.heap.size; omega) _).setNew (by show w.heap.size ≤ w.heap.size; omega) _
      clear P6 R6 C6 O6
      go_wp2_with fail
      exact bodyPost_ret (v := .agg #[.string s, .int .i64 x, .int .i64 y]) (by simp [results, Tryz.results44, go_sem, *]) rfl ⟨_, _, _, rfl, hs, CG.out, OG.out⟩

end Go.Proofs.YtnmmkechkcfjnaaGreatDoor

/-
  Plain laws on cylinders: litres, pressures after use, leading runs. No program in sight.-/
namespace Go.Proofs.YtnmmkechkcfjnaaGreatDoor
set_option linter.unusedVariables false
set_option linter.unusedSimpArgs false

def inB (n a b : Int) : Bool := decide (a ≤ n) && decide (n ≤ b)
theorem inB_iff {n a b : Int} : inB n a b = true ↔ a ≤ n ∧ n ≤ b := by simp [inB]
theorem inB_no {n a b : Int} : inB n a b = false ↔ n < a ∨ b < n := by simp [inB]; omega

def cylB (v b : Int) : Bool := inB v 10 3000 && inB b 0 330
theorem cylB_iff {v b : Int} : cylB v b = true ↔ (10 ≤ v ∧ v ≤ 3000) ∧ 0 ≤ b ∧ b ≤ 330 := by simp [cylB, inB_iff]

/-- The pressure that counts. -/
def eff (b : Int) : Int := if 200 < b then 200 + 9 * (b - 200) / 10 else b
def lit (v b : Int) : Int := v * eff b / 10
theorem eff_mono {a b : Int} (h : a ≤ b) : eff a ≤ eff b := by unfold eff; split <;> split <;> omega
theorem eff_bd {b : Int} (h0 : 0 ≤ b) (h1 : b ≤ 330) : 0 ≤ eff b ∧ eff b ≤ 317 := by unfold eff; split <;> omega
theorem lit_mono {v a b : Int} (hv : 0 ≤ v) (h : a ≤ b) : lit v a ≤ lit v b := by
  unfold lit
  have := Int.mul_le_mul_of_nonneg_left (eff_mono h) hv
  omega
theorem lit_zero (v : Int) : lit v 0 = 0 := by simp [lit, eff]
theorem mul_bd {v e : Int} (hv : 0 ≤ v) (hv' : v ≤ 3000) (he : 0 ≤ e) (he' : e ≤ 317) : 0 ≤ v * e ∧ v * e ≤ 951000 := by
  refine ⟨Int.mul_nonneg hv he, ?_⟩
  have h1 := Int.mul_le_mul_of_nonneg_left he' hv
  have h2 := Int.mul_le_mul_of_nonneg_right hv' (show (0 : Int) ≤ 317 by omega)
  omega
theorem lit_bd {v b : Int} (hv : 0 ≤ v) (hv' : v ≤ 3000) (h0 : 0 ≤ b) (h1 : b ≤ 330) : 0 ≤ lit v b ∧ lit v b ≤ 95100 := by
  have he := eff_bd h0 h1
  have := mul_bd hv hv' he.1 he.2
  unfold lit
  omega

/-- The greatest pressure, at most n, with at most 'left' litres. -/
def down (v left : Int) : Nat → Nat
  | 0 => 0
  | n + 1 => if left < lit v ((n : Int) + 1) then down v left n else n + 1
theorem down_le (v left : Int) (n : Nat) : down v left n ≤ n := by
  induction n with
  | zero => simp [down]
  | succ n ih => unfold down; split <;> omega
theorem down_lit {v left : Int} (h : 0 ≤ left) (n : Nat) : lit v (down v left n : Nat) ≤ left := by
  induction n with
  | zero => simp [down, lit_zero]; exact h
  | succ n ih =>
    unfold down
    split
    · exact ih
    · rename_i hh; push_cast; omega
theorem down_max {v left : Int} : ∀ {n m : Nat}, m ≤ n → lit v (m : Nat) ≤ left → m ≤ down v left n
  | 0, m, hm, _ => by omega
  | n + 1, m, hm, hl => by
    unfold down
    split
    · rename_i hh
      rcases Nat.lt_or_ge m (n + 1) with h | h
      · exact down_max (by omega) hl
      · obtain rfl : m = n + 1 := by omega
        push_cast at hl
        omega
    · exact hm
theorem down_step {v left : Int} {n m : Nat} (hm : m ≤ n) (h : ∀ j : Nat, m < j → j ≤ n → left < lit v (j : Nat)) (hl : m = 0 ∨ lit v (m : Nat) ≤ left) : down v left n = m := by
  induction n with
  | zero => simp [down]; omega
  | succ n ih =>
    unfold down
    rcases Nat.lt_or_ge m (n + 1) with hlt | hge
    · have h1 := h (n + 1) hlt (Nat.le_refl _)
      push_cast at h1
      rw [if_pos h1]
      exact ih (by omega) fun j h2 h3 => h j h2 (by omega)
    · obtain rfl : m = n + 1 := by omega
      rcases hl with hl | hl
      · omega
      · push_cast at hl
        rw [if_neg (by omega)]
theorem down_anti {v l1 l2 : Int} (hl0 : 0 ≤ l2) (h : l2 ≤ l1) (n : Nat) : down v l2 n ≤ down v l1 n :=
  down_max (down_le _ _ _) (by have := down_lit (v := v) hl0 n; omega)
theorem down_self {v : Int} (n : Nat) : down v (lit v (n : Nat)) n = n :=
  down_step (Nat.le_refl _) (fun j h1 h2 => by omega) (.inr (Int.le_refl _))
/-- From above: the least of b and the greatest pressure at all. -/
theorem down_min {v left : Int} (hv : 0 ≤ v) (h0 : 0 ≤ left) {n N : Nat} (hn : n ≤ N) : min n (down v left N) = down v left n := by
  have h1 := down_le v left n
  have h2 : down v left n ≤ down v left N := down_max (by omega) (down_lit h0 n)
  have h3 : min n (down v left N) ≤ down v left n := by
    refine down_max (Nat.min_le_left _ _) ?_
    have h4 := down_lit (v := v) h0 N
    have h5 : lit v ((min n (down v left N) : Nat) : Int) ≤ lit v ((down v left N : Nat) : Int) := lit_mono hv (by omega)
    omega
  omega

/-- What is left after 'used' litres, if there are so many. -/
def aftOk (v b used : Int) : Bool := decide (used ≤ lit v b)
def aftN (v b used : Int) : Int := if used ≤ lit v b then (down v (lit v b - used) b.toNat : Nat) else 0
theorem aftN_bd {v b used : Int} (h0 : 0 ≤ b) : 0 ≤ aftN v b used ∧ aftN v b used ≤ b := by
  unfold aftN
  have := down_le v (lit v b - used) b.toNat
  split <;> omega
theorem aftN_lit {v b used : Int} (h : used ≤ lit v b) : lit v (aftN v b used) ≤ lit v b - used := by
  unfold aftN
  rw [if_pos h]
  exact down_lit (by omega) _
theorem aftN_anti {v b u1 u2 : Int} (h : u1 ≤ u2) (h2 : u2 ≤ lit v b) : aftN v b u2 ≤ aftN v b u1 := by
  unfold aftN
  rw [if_pos h2, if_pos (by omega)]
  have := down_anti (v := v) (l1 := lit v b - u1) (l2 := lit v b - u2) (by omega) (by omega) b.toNat
  omega
theorem aftN_zero {v b : Int} (h0 : 0 ≤ b) (hl : 0 ≤ lit v b) : aftN v b 0 = b := by
  unfold aftN
  rw [if_pos hl]
  have hb : ((b.toNat : Nat) : Int) = b := Int.toNat_of_nonneg h0
  have := down_self (v := v) b.toNat
  rw [hb] at this
  rw [show lit v b - 0 = lit v b by omega, this, hb]

/-- How many of the first N are so, up to the first that is not. -/
def lead (g : Nat → Bool) : Nat → Nat
  | 0 => 0
  | n + 1 => if g 0 then lead (fun k => g (k + 1)) n + 1 else 0
theorem lead_eq {g : Nat → Bool} : ∀ {N k : Nat}, k ≤ N → (∀ j, j < k → g j = true) → (k = N ∨ g k = false) → lead g N = k := by
  intro N
  induction N generalizing g with
  | zero => intro k hk _ _; simp [lead]; omega
  | succ N ih =>
    intro k hk hj he
    unfold lead
    match k with
    | 0 =>
      rcases he with he | he
      · omega
      · simp [he]
    | k + 1 =>
      rw [if_pos (hj 0 (by omega))]
      rw [ih (g := fun k => g (k + 1)) (k := k) (by omega) (fun j h => hj (j + 1) (by omega)) (by
        rcases he with he | he
        · left; omega
        · right; exact he)]
theorem lead_spec (g : Nat → Bool) : ∀ (N : Nat), lead g N ≤ N ∧ (∀ j, j < lead g N → g j = true) ∧ (lead g N = N ∨ g (lead g N) = false) := by
  intro N
  induction N generalizing g with
  | zero => simp [lead]
  | succ N ih =>
    obtain ⟨h1, h2, h3⟩ := ih (fun k => g (k + 1))
    unfold lead
    by_cases hg : g 0 = true
    · rw [if_pos hg]
      refine ⟨by omega, fun j hj => ?_, ?_⟩
      · match j with
        | 0 => exact hg
        | j + 1 => exact h2 j (by omega)
      · rcases h3 with h3 | h3
        · left; omega
        · right; exact h3
    · rw [if_neg hg]
      refine ⟨by omega, fun j hj => by omega, .inr (by simpa using hg)⟩

/-- After n minutes more than 'first' at least 'bar' is left. -/
def okAt (v b rate first bar : Int) (n : Nat) : Bool := aftOk v b (rate * (first + n)) && decide (bar ≤ aftN v b (rate * (first + n)))
theorem okAt_mono {v b rate first bar : Int} (hr : 0 ≤ rate) {m n : Nat} (h : m ≤ n) (hn : okAt v b rate first bar n = true) : okAt v b rate first bar m = true := by
  simp only [okAt, aftOk, Bool.and_eq_true, decide_eq_true_eq] at hn ⊢
  have h1 : rate * (first + m) ≤ rate * (first + n) := Int.mul_le_mul_of_nonneg_left (by omega) hr
  have := aftN_anti h1 hn.1
  omega
/-- The greatest number of minutes, up to 600, or -1. -/
def timeF (v b rate first bar : Int) : Int := (lead (okAt v b rate first bar) 601 : Nat) - 1
theorem timeF_bd (v b rate first bar : Int) : -1 ≤ timeF v b rate first bar ∧ timeF v b rate first bar ≤ 600 := by
  unfold timeF
  have := (lead_spec (okAt v b rate first bar) 601).1
  omega
theorem timeF_of {v b rate first bar : Int} {k : Nat} (hk : k ≤ 601) (h : ∀ j, j < k → okAt v b rate first bar j = true) (he : k = 601 ∨ okAt v b rate first bar k = false) : timeF v b rate first bar = (k : Int) - 1 := by
  unfold timeF
  rw [lead_eq hk h he]

/-- A rate between two checks, rounded up. -/
def upF (a b : Int) : Int := (a + b - 1) / b
theorem upF_bd {a d : Int} (ha : 0 ≤ a) (ha' : a ≤ 95100) (hd : 1 ≤ d) : 0 ≤ upF a d ∧ upF a d ≤ 95100 := by
  unfold upF
  refine ⟨Int.ediv_nonneg (by omega) (by omega), ?_⟩
  have h1 : (a + d - 1) / d < 95101 := by
    rw [Int.ediv_lt_iff_lt_mul (by omega)]
    have h2 : 95101 * 1 ≤ 95101 * d := Int.mul_le_mul_of_nonneg_left hd (by omega)
    have h3 : 95101 * d = 95100 * d + d := by omega
    have h4 : 95100 * 1 ≤ 95100 * d := Int.mul_le_mul_of_nonneg_left hd (by omega)
    omega
  omega

end Go.Proofs.YtnmmkechkcfjnaaGreatDoor

/-
  Plain laws on lists given by an index: the first that is so, how many are so. No program in sight.-/
namespace Go.Proofs.YtnmmkechkcfjnaaGreatDoor
set_option linter.unusedVariables false
set_option linter.unusedSimpArgs false

/-- The first of n that is so, or -1. -/
def fstI (p : Nat → Bool) (n : Nat) : Int := if lead (fun i => !p i) n < n then (lead (fun i => !p i) n : Nat) else -1
theorem fstI_at {p : Nat → Bool} {n k : Nat} (hk : k < n) (hj : ∀ j, j < k → p j = false) (h : p k = true) : fstI p n = k := by
  have := lead_eq (g := fun i => !p i) (N := n) (k := k) (by omega) (fun j hj' => by simp [hj j hj']) (.inr (by simp [h]))
  rw [fstI, this, if_pos hk]
theorem fstI_none {p : Nat → Bool} {n : Nat} (hj : ∀ j, j < n → p j = false) : fstI p n = -1 := by
  have := lead_eq (g := fun i => !p i) (N := n) (k := n) (by omega) (fun j hj' => by simp [hj j hj']) (.inl rfl)
  rw [fstI, this, if_neg (by omega)]
theorem fstI_neg {p : Nat → Bool} {n : Nat} : decide (0 ≤ fstI p n) = !allB (fun i => !p i) n := by
  obtain ⟨h1, h2, h3⟩ := lead_spec (fun i => !p i) n
  unfold fstI
  split
  · rename_i h
    have h4 : (fun i => !p i) (lead (fun i => !p i) n) = false := by
      rcases h3 with h3 | h3
      · omega
      · exact h3
    rw [allB_false h h4]
    simp
  · rename_i h
    rw [allB_iff.2 fun i hi => h2 i (by omega)]
    simp

theorem fstI_bd (p : Nat → Bool) (n : Nat) : -1 ≤ fstI p n ∧ fstI p n < n ∨ n = 0 ∧ fstI p n = -1 := by
  unfold fstI
  split <;> omega
/-- Either none is so, or the first is known. -/
theorem fstI_cases (p : Nat → Bool) (n : Nat) : (fstI p n = -1 ∧ ∀ j, j < n → p j = false) ∨ ∃ k, k < n ∧ fstI p n = k ∧ p k = true ∧ ∀ j, j < k → p j = false := by
  obtain ⟨h1, h2, h3⟩ := lead_spec (fun i => !p i) n
  unfold fstI
  split
  · rename_i h
    right
    refine ⟨_, h, rfl, ?_, fun j hj => by simpa using h2 j hj⟩
    rcases h3 with h3 | h3
    · omega
    · simpa using h3
  · rename_i h
    left
    exact ⟨rfl, fun j hj => by simpa using h2 j (by omega)⟩
def cntF (p : Nat → Bool) : Nat → Nat
  | 0 => 0
  | n + 1 => cntF p n + if p n = true then 1 else 0
theorem cntF_le (p : Nat → Bool) (n : Nat) : cntF p n ≤ n := by
  induction n with
  | zero => simp [cntF]
  | succ n ih => unfold cntF; split <;> omega
theorem cntF_mono (p : Nat → Bool) {m n : Nat} (h : m ≤ n) : cntF p m ≤ cntF p n := by
  induction n with
  | zero => have : m = 0 := by omega
            subst this; exact Nat.le_refl _
  | succ n ih =>
    rcases Nat.lt_or_ge m (n + 1) with h1 | h1
    · have h2 := ih (by omega)
      have h3 : cntF p (n + 1) = cntF p n + if p n = true then 1 else 0 := rfl
      omega
    · have : m = n + 1 := by omega
      subst this; exact Nat.le_refl _

end Go.Proofs.YtnmmkechkcfjnaaGreatDoor

/-
  Plain words on texts: one before another. No program in sight.-/
namespace Go.Proofs.YtnmmkechkcfjnaaGreatDoor
set_option linter.unusedVariables false
set_option linter.unusedSimpArgs false

/-- A text comes before another one. -/
def ltS (x y : ByteArray) : Bool := Op.bytesLess x.toList y.toList
theorem bl_irrefl : ∀ l : List UInt8, Op.bytesLess l l = false
  | [] => rfl
  | a :: l => by simp [Op.bytesLess, bl_irrefl l]
theorem bl_trans : ∀ {a b c : List UInt8}, Op.bytesLess a b = true → Op.bytesLess b c = true → Op.bytesLess a c = true
  | [], b :: y, c :: z, _, _ => rfl
  | a :: x, [], c, h, _ => by simp [Op.bytesLess] at h
  | [], [], c, h, _ => by simp [Op.bytesLess] at h
  | a, b :: y, [], _, h => by simp [Op.bytesLess] at h
  | a :: x, b :: y, c :: z, h1, h2 => by
    simp only [Op.bytesLess, Bool.or_eq_true, decide_eq_true_eq, Bool.and_eq_true, beq_iff_eq] at *
    rcases h1 with h1 | ⟨rfl, h1⟩
    · rcases h2 with h2 | ⟨rfl, h2⟩
      · exact .inl (UInt8.lt_trans h1 h2)
      · exact .inl h1
    · rcases h2 with h2 | ⟨rfl, h2⟩
      · exact .inl h2
      · exact .inr ⟨rfl, bl_trans h1 h2⟩
theorem bl_tri : ∀ (a b : List UInt8), Op.bytesLess a b = true ∨ a = b ∨ Op.bytesLess b a = true
  | [], [] => .inr (.inl rfl)
  | [], b :: y => .inl rfl
  | a :: x, [] => .inr (.inr rfl)
  | a :: x, b :: y => by
    simp only [Op.bytesLess, Bool.or_eq_true, decide_eq_true_eq, Bool.and_eq_true, beq_iff_eq, List.cons.injEq]
    rcases Nat.lt_trichotomy a.toNat b.toNat with h | h | h
    · exact .inl (.inl (UInt8.lt_iff_toNat_lt.2 h))
    · have e : a = b := UInt8.toNat_inj.1 h
      subst e
      rcases bl_tri x y with h | h | h
      · exact .inl (.inr ⟨rfl, h⟩)
      · exact .inr (.inl ⟨rfl, h⟩)
      · exact .inr (.inr (.inr ⟨rfl, h⟩))
    · exact .inr (.inr (.inl (UInt8.lt_iff_toNat_lt.2 h)))
theorem ltS_irrefl (x : ByteArray) : ltS x x = false := bl_irrefl _
theorem ltS_trans {x y z : ByteArray} (h : ltS x y = true) (h' : ltS y z = true) : ltS x z = true := bl_trans h h'
theorem toList_inj {x y : ByteArray} (h : x.toList = y.toList) : x = y := by
  rw [ByteArray.toList_eq, ByteArray.toList_eq] at h
  exact WideShapes.bytes_inj h
theorem ltS_tri (x y : ByteArray) : ltS x y = true ∨ x = y ∨ ltS y x = true := by
  rcases bl_tri x.toList y.toList with h | h | h
  · exact .inl h
  · exact .inr (.inl (toList_inj h))
  · exact .inr (.inr h)
theorem ltS_asymm {x y : ByteArray} (h : ltS x y = true) : ltS y x = false := by
  cases e : ltS y x with
  | false => rfl
  | true => rw [← ltS_irrefl x, ← ltS_trans h e]
def cmpS (x y : ByteArray) : Int := if ltS x y = true then -1 else if x = y then 0 else 1

end Go.Proofs.YtnmmkechkcfjnaaGreatDoor

/-
  Walks: the smallest functions: bounds, the lesser, the greater, a quotient rounded up.-/
namespace Go.Proofs.YtnmmkechkcfjnaaGreatDoor
set_option linter.unusedVariables false
set_option linter.unusedSimpArgs false
open Go.RowKit

set_option maxHeartbeats 400000 in
theorem inside_any (n a b : Int) (w : World) :
    Calls Tryz.prog 32 #[.int .i64 n, .int .i64 a, .int .i64 b] w fun e w' => e = .returned (.bool (inB n a b)) ∧ w = w' := by
  go_enter Tryz.func32, Tryz.ntmps32
  go_wp2
  all_goals (go_ret; rename_i h)
  · exact ⟨ret_bool (by simp [inB, h]), rfl⟩
  · exact ⟨ret_bool (by simp [inB]; omega), rfl⟩
set_option maxHeartbeats 400000 in
theorem l1In_any (n a b : Int) (w : World) :
    Calls Tryz.prog 56 #[.int .i64 n, .int .i64 a, .int .i64 b] w fun e w' => e = .returned (.bool (inB n a b)) ∧ w = w' := by
  go_enter Tryz.func56, Tryz.ntmps56
  go_wp2
  all_goals (go_ret; rename_i h)
  · exact ⟨ret_bool (by simp [inB, h]), rfl⟩
  · exact ⟨ret_bool (by simp [inB]; omega), rfl⟩
set_option maxHeartbeats 400000 in
theorem l1Least_any (a b : Int) (w : World) :
    Calls Tryz.prog 40 #[.int .i64 a, .int .i64 b] w fun e w' => e = .returned (.int .i64 (min a b)) ∧ w = w' := by
  by_cases h : a < b
  · go_enter Tryz.func40, Tryz.ntmps40
    go_wp2
    go_ret
    exact ⟨ret_int (by omega), rfl⟩
  · go_enter Tryz.func40, Tryz.ntmps40
    go_wp2
    go_ret
    exact ⟨ret_int (by omega), rfl⟩
set_option maxHeartbeats 400000 in
theorem upTo_any (a d : Int) (w : World) (ha : 0 ≤ a) (ha' : a ≤ 100000) (hd : 1 ≤ d) (hd' : d ≤ 100000) :
    Calls Tryz.prog 35 #[.int .i64 a, .int .i64 d] w fun e w' => e = .returned (.int .i64 (upF a d)) ∧ w = w' := by
  have hd2 : (d == 0) = false := by simp; omega
  go_enter Tryz.func35, Tryz.ntmps35
  go_wp2_with fail
  go_ret
  exact ⟨ret_int rfl, rfl⟩
set_option maxHeartbeats 400000 in
theorem l1Most_any (a b : Int) (w : World) :
    Calls Tryz.prog 63 #[.int .i64 a, .int .i64 b] w fun e w' => e = .returned (.int .i64 (max a b)) ∧ w = w' := by
  by_cases h : b < a
  · go_enter Tryz.func63, Tryz.ntmps63
    go_wp2
    go_ret
    exact ⟨ret_int (by omega), rfl⟩
  · go_enter Tryz.func63, Tryz.ntmps63
    go_wp2
    go_ret
    exact ⟨ret_int (by omega), rfl⟩

end Go.Proofs.YtnmmkechkcfjnaaGreatDoor

/-
  Walks: names.-/
namespace Go.Proofs.YtnmmkechkcfjnaaGreatDoor
set_option linter.unusedVariables false
set_option linter.unusedSimpArgs false
open Go.RowKit

def byteAt (s : ByteArray) (i : Nat) : Int := if h : i < s.size then (s[i].toNat : Int) else 0
def lowB (c : Int) : Bool := decide (97 ≤ c) && decide (c ≤ 122)
def digB (c : Int) : Bool := decide (48 ≤ c) && decide (c ≤ 57)
def nm1 (s : ByteArray) (i : Nat) : Bool := lowB (byteAt s i) || (digB (byteAt s i) && !decide (i = 0))
def nameB (s : ByteArray) : Bool := allB (nm1 s) s.size && inB s.size 1 6
theorem byteAt_eq {s : ByteArray} {i : Nat} (h : i < s.size) : (s[i].toNat : Int) = byteAt s i := by simp [byteAt, h]
theorem nameB_no {s : ByteArray} {k : Nat} (hk : k < s.size) (h : nm1 s k = false) : nameB s = false := by rw [nameB, allB_false hk h]; rfl

/-- Where a byte lies among digits and letters. -/
theorem byte_cases (c : Int) : (c < 48) ∨ (48 ≤ c ∧ c ≤ 57) ∨ (57 < c ∧ c < 97) ∨ (97 ≤ c ∧ c ≤ 122) ∨ 122 < c := by omega
theorem nm1_no1 {s : ByteArray} {i : Nat} (h : byteAt s i < 48) : nm1 s i = false := by simp [nm1, lowB, digB]; omega
theorem nm1_no2 {s : ByteArray} {i : Nat} (h : 57 < byteAt s i) (h' : byteAt s i < 97) : nm1 s i = false := by simp [nm1, lowB, digB]; omega
theorem nm1_no3 {s : ByteArray} {i : Nat} (h : 122 < byteAt s i) : nm1 s i = false := by simp [nm1, lowB, digB]; omega
theorem nm1_low {s : ByteArray} {i : Nat} (h : 97 ≤ byteAt s i) (h' : byteAt s i ≤ 122) : nm1 s i = true := by simp [nm1, lowB, digB]; omega
theorem nm1_dig {s : ByteArray} {i : Nat} (h : 48 ≤ byteAt s i) (h' : byteAt s i ≤ 57) (h0 : 0 < i) : nm1 s i = true := by simp [nm1, lowB, digB]; omega
theorem nm1_dig0 {s : ByteArray} {i : Nat} (h : 48 ≤ byteAt s i) (h' : byteAt s i ≤ 57) (h0 : i = 0) : nm1 s i = false := by subst h0; simp [nm1, lowB, digB]; omega

set_option maxRecDepth 100000 in
set_option maxHeartbeats 1600000 in
theorem isName_any (s : ByteArray) (w : World) (hs : s.size ≤ maxLen) :
    Calls Tryz.prog 33 #[.string s] w fun e w' => e = .returned (.bool (nameB s)) ∧ Drew w w' := by
  unfold maxLen at hs
  go_enter Tryz.func33, Tryz.ntmps33
  go_wp2_with fail
  go_loopw [8] (fun i wr => ∃ k : Nat, k ≤ s.size ∧ i = .int .i64 k ∧ Hid (∀ j, j < k → nm1 s j = true) ∧ Drew w wr) (fun i _ => s.size - (intOf i).toNat)
  case atStart => exact ⟨0, by omega, rfl, fun j hj => by omega, ⟨0, rfl⟩⟩
  case round =>
    obtain ⟨k, hk, rfl, hj, hw⟩ := hrel
    by_cases hkn : k < s.size
    · have hb := byteAt_eq hkn
      rcases byte_cases (byteAt s k) with h | h | h | h | h
      · have HF := hide (nameB_no hkn (nm1_no1 h))
        have a1 : decide (97 ≤ (s[k].toNat : Int)) = false := by simp; omega
        have a2 : decide (48 ≤ (s[k].toNat : Int)) = false := by simp; omega
        clear hb h
        go_wp2_with fail
        go_quiet (fail)
        go_wp2_with fail
        go_ret
        exact ⟨ret_bool HF.out.symm, (by repeat (first | exact Drew.refl _ | assumption | (refine Drew.drewN ?_ _) | (refine Drew.trans ?_ (by assumption))))⟩
      · rcases Nat.eq_zero_or_pos k with hk0 | h0
        · have HF := hide (nameB_no hkn (nm1_dig0 h.1 h.2 hk0))
          have d0 : ((k : Int) == 0) = true := by simp; omega
          have a1 : decide (97 ≤ (s[k].toNat : Int)) = false := by simp; omega
          have a2 : decide (48 ≤ (s[k].toNat : Int)) = true := by simp; omega
          have b2 : decide ((s[k].toNat : Int) ≤ 57) = true := by simp; omega
          clear hb h hk0
          go_wp2_with fail
          go_quiet (fail)
          go_wp2_with fail
          go_ret
          exact ⟨ret_bool HF.out.symm, (by repeat (first | exact Drew.refl _ | assumption | (refine Drew.drewN ?_ _) | (refine Drew.trans ?_ (by assumption))))⟩
        · have HG := hide (nm1_dig h.1 h.2 h0)
          have a1 : decide (97 ≤ (s[k].toNat : Int)) = false := by simp; omega
          have a2 : decide (48 ≤ (s[k].toNat : Int)) = true := by simp; omega
          have b2 : decide ((s[k].toNat : Int) ≤ 57) = true := by simp; omega
          have d0 : ((k : Int) == 0) = false := by simp; omega
          clear hb h
          go_wp2_with fail
          go_quiet (fail)
          go_wp2_with fail
          go_roundw
          case rel => exact ⟨k + 1, by omega, by go_num, upto_snoc hj.out HG.out, (by repeat (first | exact Drew.refl _ | assumption | (refine Drew.drewN ?_ _) | (refine Drew.trans ?_ (by assumption))))⟩
          case measure => simp [intOf]; omega
      · have HF := hide (nameB_no hkn (nm1_no2 h.1 h.2))
        have a1 : decide (97 ≤ (s[k].toNat : Int)) = false := by simp; omega
        have a2 : decide (48 ≤ (s[k].toNat : Int)) = true := by simp; omega
        have b2 : decide ((s[k].toNat : Int) ≤ 57) = false := by simp; omega
        clear hb h
        go_wp2_with fail
        go_quiet (fail)
        go_wp2_with fail
        go_ret
        exact ⟨ret_bool HF.out.symm, (by repeat (first | exact Drew.refl _ | assumption | (refine Drew.drewN ?_ _) | (refine Drew.trans ?_ (by assumption))))⟩
      · have HG := hide (nm1_low h.1 h.2)
        have a1 : decide (97 ≤ (s[k].toNat : Int)) = true := by simp; omega
        have b1 : decide ((s[k].toNat : Int) ≤ 122) = true := by simp; omega
        have a2 : decide (48 ≤ (s[k].toNat : Int)) = true := by simp; omega
        have b2 : decide ((s[k].toNat : Int) ≤ 57) = false := by simp; omega
        clear hb h
        go_wp2_with fail
        go_quiet (fail)
        go_wp2_with fail
        go_roundw
        case rel => exact ⟨k + 1, by omega, by go_num, upto_snoc hj.out HG.out, (by repeat (first | exact Drew.refl _ | assumption | (refine Drew.drewN ?_ _) | (refine Drew.trans ?_ (by assumption))))⟩
        case measure => simp [intOf]; omega
      · have HF := hide (nameB_no hkn (nm1_no3 h))
        have a1 : decide (97 ≤ (s[k].toNat : Int)) = true := by simp; omega
        have b1 : decide ((s[k].toNat : Int) ≤ 122) = false := by simp; omega
        have a2 : decide (48 ≤ (s[k].toNat : Int)) = true := by simp; omega
        have b2 : decide ((s[k].toNat : Int) ≤ 57) = false := by simp; omega
        clear hb h
        go_wp2_with fail
        go_quiet (fail)
        go_wp2_with fail
        go_ret
        exact ⟨ret_bool HF.out.symm, (by repeat (first | exact Drew.refl _ | assumption | (refine Drew.drewN ?_ _) | (refine Drew.trans ?_ (by assumption))))⟩
    · obtain rfl : k = s.size := by omega
      have HE : Hid (allB (nm1 s) s.size = true) := allB_iff.2 hj.out
      go_wp2_with (go_at_call 32; refine (inside_any _ _ _ _).mono ?_; rintro e w' ⟨rfl, rfl⟩)
      go_ret
      exact ⟨ret_bool (by rw [nameB, HE.out]; rfl), (by repeat (first | exact Drew.refl _ | assumption | (refine Drew.drewN ?_ _) | (refine Drew.trans ?_ (by assumption))))⟩
set_option maxRecDepth 100000 in
set_option maxHeartbeats 1600000 in
theorem apName_any (s : ByteArray) (w : World) (hs : s.size ≤ maxLen) :
    Calls Tryz.prog 38 #[.string s] w fun e w' => e = .returned (.bool (nameB s)) ∧ Drew w w' := by
  unfold maxLen at hs
  go_enter Tryz.func38, Tryz.ntmps38
  go_wp2_with fail
  go_loopw [3] (fun i wr => ∃ k : Nat, k ≤ s.size ∧ i = .int .i64 k ∧ Hid (∀ j, j < k → nm1 s j = true) ∧ Drew w wr) (fun i _ => s.size - (intOf i).toNat)
  case atStart => exact ⟨0, by omega, rfl, fun j hj => by omega, ⟨0, rfl⟩⟩
  case round =>
    obtain ⟨k, hk, rfl, hj, hw⟩ := hrel
    by_cases hkn : k < s.size
    · have hb := byteAt_eq hkn
      rcases byte_cases (byteAt s k) with h | h | h | h | h
      · have HF := hide (nameB_no hkn (nm1_no1 h))
        have a1 : decide (97 ≤ (s[k].toNat : Int)) = false := by simp; omega
        have a2 : decide (48 ≤ (s[k].toNat : Int)) = false := by simp; omega
        clear hb h
        go_wp2_with fail
        go_ret
        exact ⟨ret_bool HF.out.symm, (by repeat (first | exact Drew.refl _ | assumption | (refine Drew.drewN ?_ _) | (refine Drew.trans ?_ (by assumption))))⟩
      · rcases Nat.eq_zero_or_pos k with hk0 | h0
        · have HF := hide (nameB_no hkn (nm1_dig0 h.1 h.2 hk0))
          have d0 : ((k : Int) == 0) = true := by simp; omega
          have a1 : decide (97 ≤ (s[k].toNat : Int)) = false := by simp; omega
          have a2 : decide (48 ≤ (s[k].toNat : Int)) = true := by simp; omega
          have b2 : decide ((s[k].toNat : Int) ≤ 57) = true := by simp; omega
          clear hb h hk0
          go_wp2_with fail
          go_ret
          exact ⟨ret_bool HF.out.symm, (by repeat (first | exact Drew.refl _ | assumption | (refine Drew.drewN ?_ _) | (refine Drew.trans ?_ (by assumption))))⟩
        · have HG := hide (nm1_dig h.1 h.2 h0)
          have a1 : decide (97 ≤ (s[k].toNat : Int)) = false := by simp; omega
          have a2 : decide (48 ≤ (s[k].toNat : Int)) = true := by simp; omega
          have b2 : decide ((s[k].toNat : Int) ≤ 57) = true := by simp; omega
          have d0 : ((k : Int) == 0) = false := by simp; omega
          clear hb h
          go_wp2_with fail
          go_roundw
          case rel => exact ⟨k + 1, by omega, by go_num, upto_snoc hj.out HG.out, (by repeat (first | exact Drew.refl _ | assumption | (refine Drew.drewN ?_ _) | (refine Drew.trans ?_ (by assumption))))⟩
          case measure => simp [intOf]; omega
      · have HF := hide (nameB_no hkn (nm1_no2 h.1 h.2))
        have a1 : decide (97 ≤ (s[k].toNat : Int)) = false := by simp; omega
        have a2 : decide (48 ≤ (s[k].toNat : Int)) = true := by simp; omega
        have b2 : decide ((s[k].toNat : Int) ≤ 57) = false := by simp; omega
        clear hb h
        go_wp2_with fail
        go_ret
        exact ⟨ret_bool HF.out.symm, (by repeat (first | exact Drew.refl _ | assumption | (refine Drew.drewN ?_ _) | (refine Drew.trans ?_ (by assumption))))⟩
      · have HG := hide (nm1_low h.1 h.2)
        have a1 : decide (97 ≤ (s[k].toNat : Int)) = true := by simp; omega
        have b1 : decide ((s[k].toNat : Int) ≤ 122) = true := by simp; omega
        have a2 : decide (48 ≤ (s[k].toNat : Int)) = true := by simp; omega
        have b2 : decide ((s[k].toNat : Int) ≤ 57) = false := by simp; omega
        clear hb h
        go_wp2_with fail
        go_roundw
        case rel => exact ⟨k + 1, by omega, by go_num, upto_snoc hj.out HG.out, (by repeat (first | exact Drew.refl _ | assumption | (refine Drew.drewN ?_ _) | (refine Drew.trans ?_ (by assumption))))⟩
        case measure => simp [intOf]; omega
      · have HF := hide (nameB_no hkn (nm1_no3 h))
        have a1 : decide (97 ≤ (s[k].toNat : Int)) = true := by simp; omega
        have b1 : decide ((s[k].toNat : Int) ≤ 122) = false := by simp; omega
        have a2 : decide (48 ≤ (s[k].toNat : Int)) = true := by simp; omega
        have b2 : decide ((s[k].toNat : Int) ≤ 57) = false := by simp; omega
        clear hb h
        go_wp2_with fail
        go_ret
        exact ⟨ret_bool HF.out.symm, (by repeat (first | exact Drew.refl _ | assumption | (refine Drew.drewN ?_ _) | (refine Drew.trans ?_ (by assumption))))⟩
    · obtain rfl : k = s.size := by omega
      have HE : Hid (allB (nm1 s) s.size = true) := allB_iff.2 hj.out
      go_wp2_with (go_at_call 56; refine (l1In_any _ _ _ _).mono ?_; rintro e w' ⟨rfl, rfl⟩)
      go_ret
      exact ⟨ret_bool (by rw [nameB, HE.out]; rfl), (by repeat (first | exact Drew.refl _ | assumption | (refine Drew.drewN ?_ _) | (refine Drew.trans ?_ (by assumption))))⟩

end Go.Proofs.YtnmmkechkcfjnaaGreatDoor
