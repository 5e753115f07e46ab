/-
  Texts of this proof, one behind the other (part 5).
-/
import Derived.Test.YtpckhpkbdanjoaaDoorQ4
import Derived.Still
import Derived.BigRegion
/-
  Regions that draw their order, in which operations that only look stand beside operations that write, whose order is forced: one walk serves every order.-/
namespace Go.Proofs.YtpckhpkbdanjoaaDoor
set_option linter.unusedVariables false
set_option linter.unusedSimpArgs false
open Go

section
variable {P : Program} {ops : Array Oper} {md : Region.Mode} {C : World → Prop} {Q : Act → World → Prop}

/-- An operation has run: a value and a world; a call that hands back a value. -/
def goesUpon (P : Program) (R : Value → World → Prop) : Result Next → Prop
  | .ok (.value u) w' => R u w'
  | .ok .skip w' => R undef w'
  | .ok (.enter f args) w' => Calls P f args w' (fun e w'' => ∃ v, e = .returned v ∧ R v w'')
  | _ => False
theorem goesUpon_mono {R R' : Value → World → Prop} (h : ∀ v w, R v w → R' v w) {r : Result Next} (hh : goesUpon P R r) : goesUpon P R' r := by
  cases r with
  | ok n w' =>
    cases n <;> simp only [goesUpon] at hh ⊢
    case value u => exact h _ _ hh
    case skip => exact h _ _ hh
    case enter f args => exact hh.mono fun e w'' ⟨v, he, hr⟩ => ⟨v, he, h _ _ hr⟩
  | halt x w' => simp only [goesUpon] at hh
def eOp (P : Program) (ops : Array Oper) (i : Nat) (K : Act → World → Prop) (a : Act) (w : World) : Prop :=
  match ops[i]? with
  | none => K a w
  | some o => if Region.wanted o (yielded ops a.tmps) = true then goesUpon P (fun v w' => K (a.put o.dst v) w') ((execOp a.eval o).run P w) else K (a.put o.dst undef) w
theorem eOp_mono {i : Nat} {K K' : Act → World → Prop} {a : Act} {w : World} (h : ∀ a w, K a w → K' a w) (hh : eOp P ops i K a w) : eOp P ops i K' a w := by
  unfold eOp at *
  split
  · exact h _ _ (by simpa [*] using hh)
  · rename_i o ho
    simp only [ho] at hh
    split
    · rename_i hw; simp only [hw, if_true] at hh; exact goesUpon_mono (fun v w hr => h _ _ hr) hh
    · rename_i hw; simp only [hw] at hh; exact h _ _ hh
theorem wpOp_of_eOp {i : Nat} {K : Act → World → Prop} {Q' : Exit → Act → World → Prop} {a : Act} {w : World} (hh : eOp P ops i K a w) : wpOp P ops Q' i K a w := by
  unfold eOp at hh
  unfold wpOp
  split
  · rename_i ho; simp only [ho] at hh; exact hh
  · rename_i o ho
    simp only [ho] at hh
    split
    · rename_i hw
      simp only [hw, if_true] at hh
      refine .inl ?_
      unfold Oper.wp
      generalize (execOp a.eval o).run P w = r at *
      cases r with
      | ok n w' =>
        cases n <;> simp only [goesUpon] at hh <;> simp only [Oper.upon]
        case value u => exact hh
        case skip => exact hh
        case enter f args => exact hh.mono fun e w'' ⟨v, he, hr⟩ => by subst he; exact hr
      | halt x w' => simp only [goesUpon] at hh
    · rename_i hw; simp only [hw] at hh; exact hh
/-- In whatever order. -/
def wpAnyM (P : Program) (md : Region.Mode) (ops : Array Oper) (C : World → Prop) (Q : Act → World → Prop) : Nat → Array Bool → Act → World → Prop
  | 0, listed, a, w => Region.ready md ops listed = [] ∧ Q a w
  | fuel + 1, listed, a, w => (Region.ready md ops listed = [] → Q a w) ∧ ∀ i ∈ Region.ready md ops listed, eOp P ops i (fun a' w' => C w' ∧ wpAnyM P md ops C Q fuel (listed.setIfInBounds i true) a' w') a w
theorem wpAny_of_M {Q' : Exit → Act → World → Prop} (hQ : ∀ a w, Q a w → Q' .normal a w) : ∀ (fuel : Nat) (listed : Array Bool) (a : Act) (w : World), wpAnyM P md ops C Q fuel listed a w → wpAny P md ops Q' fuel listed a w
  | 0, _, _, _, h => ⟨h.1, hQ _ _ h.2⟩
  | fuel + 1, _, _, _, h => ⟨fun h0 => hQ _ _ (h.1 h0), fun i hi => wpOp_of_eOp (eOp_mono (fun a' w' h' => wpAny_of_M hQ fuel _ a' w' h'.2) (h.2 i hi))⟩
/-- In every world of the class the operation yields this value and leaves the world alone. -/
def YieldsAll (P : Program) (ops : Array Oper) (C : World → Prop) (o : Oper) (v : Value) (a : Act) : Prop :=
  (Region.wanted o (yielded ops a.tmps) = true ∧ ∀ w, C w → (execOp a.eval o).run P w = .ok (.value v) w) ∨ (Region.wanted o (yielded ops a.tmps) = false ∧ v = undef)
theorem YieldsAll.of_same {o : Oper} {v : Value} {a a' : Act} (hy : YieldsAll P ops C o v a) (he : execOp a'.eval o = execOp a.eval o)
    (hw : Region.wanted o (yielded ops a'.tmps) = Region.wanted o (yielded ops a.tmps)) : YieldsAll P ops C o v a' := by
  unfold YieldsAll at *
  rw [he, hw]
  exact hy
theorem YieldsAll.eOp {i : Nat} {o : Oper} {v : Value} {a : Act} {w : World} (hi : ops[i]? = some o) (hy : YieldsAll P ops C o v a) (hC : C w) {K : Act → World → Prop} (h : K (a.put o.dst v) w) : eOp P ops i K a w := by
  unfold Go.Proofs.YtpckhpkbdanjoaaDoor.eOp
  simp only [hi]
  rcases hy with ⟨hw, hv⟩ | ⟨hw, rfl⟩
  · simp only [hw, if_true, hv w hC, goesUpon]; exact h
  · simp only [hw, Bool.false_eq_true, if_false]; exact h
theorem eOp_put {j : Nat} {oi oj : Oper} {v : Value} (hj : ops[j]? = some oj) (hap : oi.apart ops oj = true)
    (hsi : ∀ cs b, oi.op ≠ .select cs b) (hsj : ∀ cs b, oj.op ≠ .select cs b) {K : Act → World → Prop} {a : Act} {w : World}
    (hy : YieldsAll P ops C oi v a) (h : eOp P ops j K (a.put oi.dst v) w) :
    eOp P ops j (fun a' w' => YieldsAll P ops C oi v a' ∧ K (a'.put oi.dst v) w') a w := by
  obtain ⟨h1, h2, h3⟩ := Oper.apart_spec hap
  have keep : ∀ (a : Act), YieldsAll P ops C oi v a → ∀ u, YieldsAll P ops C oi v (a.put oj.dst u) := fun a hy u =>
    hy.of_same (execOp_put oi hsi a oj.dst u h3) (wanted_put oi a oj.dst u h3)
  unfold eOp at *
  simp only [hj] at *
  rw [wanted_put oj a oi.dst v h1] at h
  split
  · rename_i hw
    simp only [hw, if_true] at h
    rw [execOp_put oj hsj a oi.dst v h1] at h
    refine goesUpon_mono (fun u w' hk => ⟨keep a hy u, ?_⟩) h
    rw [← Act.put_comm a v u h2]
    exact hk
  · rename_i hw
    simp only [hw] at h
    exact ⟨keep a hy _, by rw [← Act.put_comm a v undef h2]; exact h⟩
/-- An operation that only looks may be taken first. -/
theorem wpAnyM_first {i : Nat} {oi : Oper} {v : Value} (hi : ops[i]? = some oi) (hsel : ∀ (j : Nat) (o : Oper) cs b, ops[j]? = some o → o.op ≠ .select cs b) :
    ∀ (fuel : Nat) (listed : Array Bool) (a : Act) (w : World), C w →
      (∀ j oj, ops[j]? = some oj → j ≠ i → listed.getD j true = false → (∀ e ∈ oj.after, Region.binds md e = true → e.on ≠ i) → oi.apart ops oj = true) →
      i ∈ Region.ready md ops listed → YieldsAll P ops C oi v a →
      wpAnyM P md ops C Q fuel (listed.setIfInBounds i true) (a.put oi.dst v) w → wpAnyM P md ops C Q (fuel + 1) listed a w := by
  intro fuel
  induction fuel with
  | zero =>
    intro listed a w hC hfree hr hy H
    refine ⟨fun h => (by rw [h] at hr; cases hr), fun j hj => ?_⟩
    by_cases hji : j = i
    · subst hji; exact hy.eOp hi hC ⟨hC, H⟩
    · have := ready_mono hj hji
      rw [H.1] at this
      cases this
  | succ fuel ih =>
    intro listed a w hC hfree hr hy H
    refine ⟨fun h => (by rw [h] at hr; cases hr), fun j hj => ?_⟩
    by_cases hji : j = i
    · subst hji; exact hy.eOp hi hC ⟨hC, H⟩
    · have h1 := H.2 j (ready_mono hj hji)
      obtain ⟨hjun, oj, hoj, hall⟩ := mem_ready.1 hj
      have hnot : ∀ e ∈ oj.after, Region.binds md e = true → e.on ≠ i := fun e he hb heq => by
        have h1 := hall e he hb
        have h0 := (mem_ready.1 hr).1
        rw [heq] at h1
        rcases Nat.lt_or_ge i listed.size with h' | h'
        · simp [h'] at h0 h1; rw [h0] at h1; cases h1
        · simp [Array.getElem?_eq_none h'] at h1
      have h2 := eOp_put hoj (hfree j oj hoj hji hjun hnot) (fun cs b => hsel i oi cs b hi) (fun cs b => hsel j oj cs b hoj) hy h1
      have hfree' : ∀ k ok, ops[k]? = some ok → k ≠ i → (listed.setIfInBounds j true).getD k true = false →
          (∀ e ∈ ok.after, Region.binds md e = true → e.on ≠ i) → oi.apart ops ok = true := fun k ok hk hki hun hno => by
        refine hfree k ok hk hki ?_ hno
        by_cases hjk : j = k
        · subst hjk; exact hjun
        · rw [getD_set_ne true hjk] at hun; exact hun
      refine eOp_mono (fun a' w' h3 => ⟨h3.2.1, ih (listed.setIfInBounds j true) a' w' h3.2.1 hfree' (ready_mono hr (Ne.symm hji)) h3.1 ?_⟩) h2
      rw [Array.setIfInBounds_comm _ _ hji]
      exact h3.2.2
/-- The order that is walked: what only looks first; what writes when nothing else may come up. -/
def mixFrom (md : Region.Mode) (ops : Array Oper) : List (Nat × Bool) → Array Bool → Bool
  | [], listed => (Region.ready md ops listed).isEmpty
  | (k, b) :: r, listed => (if b then (Region.ready md ops listed).contains k && Region.free md ops listed k else Region.ready md ops listed == [k]) && mixFrom md ops r (listed.setIfInBounds k true)
def wpMix (P : Program) (ops : Array Oper) (C : World → Prop) (Q : Act → World → Prop) : List (Nat × Bool) → Act → World → Prop
  | [], a, w => Q a w
  | (k, true) :: r, a, w => ∃ o v, ops[k]? = some o ∧ YieldsAll P ops C o v a ∧ wpMix P ops C Q r (a.put o.dst v) w
  | (k, false) :: r, a, w => eOp P ops k (fun a' w' => C w' ∧ wpMix P ops C Q r a' w') a w
theorem wpAnyM_mix (hs : Region.noSelect ops = true) : ∀ (r : List (Nat × Bool)) (listed : Array Bool) (a : Act) (w : World), C w → mixFrom md ops r listed = true → wpMix P ops C Q r a w → wpAnyM P md ops C Q r.length listed a w
  | [], _, _, _, _, hB, h => ⟨by simpa [mixFrom] using hB, h⟩
  | (k, true) :: r, listed, a, w, hC, hB, h => by
    simp only [mixFrom, if_true, Bool.and_eq_true] at hB
    obtain ⟨⟨hr, hf⟩, hB'⟩ := hB
    obtain ⟨o, v, ho, hy, hK⟩ := h
    exact wpAnyM_first ho (Region.noSelect_spec hs) r.length listed a w hC (Region.free_spec ho hf) (by simpa using hr) hy (wpAnyM_mix hs r _ _ _ hC hB' hK)
  | (k, false) :: r, listed, a, w, hC, hB, h => by
    simp only [mixFrom, Bool.false_eq_true, if_false, Bool.and_eq_true, beq_iff_eq] at hB
    obtain ⟨hr, hB'⟩ := hB
    refine ⟨fun h0 => (by rw [hr] at h0; cases h0), fun i hi => ?_⟩
    rw [hr] at hi
    obtain rfl : i = k := by simpa using hi
    exact eOp_mono (fun a' w' h' => ⟨h'.1, wpAnyM_mix hs r _ a' w' h'.1 hB' h'.2⟩) h
theorem wp_region_mix {id : Nat} {Q : Exit → Act → World → Prop} {a : Act} {w : World} {l : List Oper} (r : List (Nat × Bool)) (C : World → Prop) (hm : P.follows .mixedOrders = true) (hs : Region.noSelect l.toArray = true) (hl : r.length = l.toArray.size)
    (hB : mixFrom .any l.toArray r (Array.replicate l.toArray.size false) = true) (hC : C { w with drawn := w.drawn + 1 })
    (h : wpMix P l.toArray C (fun a' w' => Q .normal a' w') r a { w with drawn := w.drawn + 1 }) : (Code.region id l.toArray true).wp P Q a w := by
  refine wp_region_any hm (wpAny_of_M (C := C) (Q := fun a' w' => Q .normal a' w') (fun _ _ h => h) _ _ _ _ ?_)
  rw [← hl]
  exact wpAnyM_mix hs r _ a _ hC (by rw [hl]; exact hB) h
theorem mix_look {k : Nat} {r : List (Nat × Bool)} {a : Act} {w : World} (o : Oper) (v : Value) (hk : ops[k]? = some o) (hw : Region.wanted o (yielded ops a.tmps) = true) (hv : ∀ w, C w → (execOp a.eval o).run P w = .ok (.value v) w)
    (h : wpMix P ops C Q r (a.put o.dst v) w) : wpMix P ops C Q ((k, true) :: r) a w := ⟨o, v, hk, .inl ⟨hw, hv⟩, h⟩
theorem mix_skip {k : Nat} {r : List (Nat × Bool)} {a : Act} {w : World} (o : Oper) (hk : ops[k]? = some o) (hw : Region.wanted o (yielded ops a.tmps) = false)
    (h : wpMix P ops C Q r (a.put o.dst undef) w) : wpMix P ops C Q ((k, true) :: r) a w := ⟨o, undef, hk, .inr ⟨hw, rfl⟩, h⟩
theorem mix_value {k : Nat} {r : List (Nat × Bool)} {a : Act} {w : World} (o : Oper) (v : Value) (w' : World) (hk : ops[k]? = some o) (hw : Region.wanted o (yielded ops a.tmps) = true) (hv : (execOp a.eval o).run P w = .ok (.value v) w') (hC : C w')
    (h : wpMix P ops C Q r (a.put o.dst v) w') : wpMix P ops C Q ((k, false) :: r) a w := by
  show eOp P ops k _ a w
  unfold eOp
  simp only [hk, hw, if_true, hv, goesUpon]
  exact ⟨hC, h⟩
theorem mix_call {k : Nat} {r : List (Nat × Bool)} {a : Act} {w : World} (o : Oper) (f : FuncId) (args : Array Value) (hk : ops[k]? = some o) (hw : Region.wanted o (yielded ops a.tmps) = true) (hv : (execOp a.eval o).run P w = .ok (.enter f args) w)
    (h : Calls P f args w fun e w'' => ∃ v, e = .returned v ∧ C w'' ∧ wpMix P ops C Q r (a.put o.dst v) w'') : wpMix P ops C Q ((k, false) :: r) a w := by
  show eOp P ops k _ a w
  unfold eOp
  simp only [hk, hw, if_true, hv, goesUpon]
  exact h
theorem wpMix_nil {a : Act} {w : World} (h : Q a w) : wpMix P ops C Q [] a w := h
theorem run_op_append {o : Oper} {a : Act} {w w' : World} {v u v' : Value} (s x : Operand) (t : TypeId) (ho : o.op = .call { callee := .builtin .append, args := #[s, x], argTypes := #[t, t] }) (hs : a.eval s = v) (hx : a.eval x = u)
    (hr : (Builtin.append_ #[t, t] o.type #[v, u]).run P w = .ok v' w') : (execOp a.eval o).run P w = .ok (.value v') w' := by
  unfold execOp
  simp only [ho, resolve, invoke, builtin, Sem.run_bind, Sem.run_pure, Result.andThen_ok, List.map_toArray, List.map_cons, List.map_nil, hs, hx, hr]
end

end Go.Proofs.YtpckhpkbdanjoaaDoor

/-
  Walks: the steps from a cell to all cells: the program's.-/
namespace Go.Proofs.YtpckhpkbdanjoaaDoor
set_option linter.unusedVariables false
set_option linter.unusedSimpArgs false
open Go.RowKit

/-- The letters of the directions, as a range over them reads them. -/
def dLs : ByteArray := ⟨#[110, 101, 115, 119]⟩
def setIter (w : World) (b : Nat) (s : ByteArray) (p : Nat) : World := { w with heap := w.heap.setIfInBounds b (.stringIter s p) }
theorem run_next_at {P : Program} (w : World) (b : Nat) (s : ByteArray) (pos : Nat) (ty : TypeId) (hb : w.heap[b]? = some (.stringIter s pos)) (h : pos < s.size) (ha : (s[pos]'h).toNat < 128) :
    (Instr.next (.pointer (some ⟨b, 0, none⟩)) true ty).run P w = .ok (.tuple #[.bool true, .int .i64 pos, .int .i32 (s[pos]'h).toNat]) (setIter w b s (pos + 1)) := by
  simp only [Instr.next, getObj, setObj, Sem.run_bind, Sem.run, hb, Result.andThen, h, if_true, decode_ascii s pos h ha]
  simp [goInt, Sem.run, hb, setIter]
theorem run_next_done {P : Program} (w : World) (b : Nat) (s : ByteArray) (pos : Nat) (ty : TypeId) (hb : w.heap[b]? = some (.stringIter s pos)) (h : ¬ pos < s.size) :
    (Instr.next (.pointer (some ⟨b, 0, none⟩)) true ty).run P w = .ok (.tuple #[.bool false]) w := by
  simp [Instr.next, getObj, Sem.run, hb, h]
theorem run_next_d {P : Program} (w : World) (b d : Nat) (ty : TypeId) (hb : w.heap[b]? = some (.stringIter dLs d)) (h : d < 4) :
    (Instr.next (.pointer (some ⟨b, 0, none⟩)) true ty).run P w = .ok (.tuple #[.bool true, .int .i64 d, .int .i32 (dL d)]) (setIter w b dLs (d + 1)) := by
  have h4 : d = 0 ∨ d = 1 ∨ d = 2 ∨ d = 3 := by omega
  rcases h4 with rfl | rfl | rfl | rfl
  · exact run_next_at w b dLs 0 ty hb (by decide) (by decide)
  · exact run_next_at w b dLs 1 ty hb (by decide) (by decide)
  · exact run_next_at w b dLs 2 ty hb (by decide) (by decide)
  · exact run_next_at w b dLs 3 ty hb (by decide) (by decide)
theorem setIter_size (w : World) (b : Nat) (s : ByteArray) (p : Nat) : (setIter w b s p).heap.size = w.heap.size := by simp [setIter]
theorem setIter_at {w : World} {b : Nat} (hb : b < w.heap.size) (s : ByteArray) (p : Nat) : (setIter w b s p).heap[b]? = some (.stringIter s p) := by simp [setIter, Array.getElem?_setIfInBounds, hb]
theorem setIter_other {w : World} {b k : Nat} (h : k ≠ b) (s : ByteArray) (p : Nat) : (setIter w b s p).heap[k]? = w.heap[k]? := by
  simp [setIter, Array.getElem?_setIfInBounds, Ne.symm h]
theorem setIter_below {a w : World} {B b : Nat} (h : Below B a w) (hb : B ≤ b) (s : ByteArray) (p : Nat) : Below B a (setIter w b s p) :=
  ⟨h.os, h.tape, h.output, by rw [setIter_size]; exact h.size, fun k hk => (setIter_other (by omega) s p).trans (h.block k hk)⟩
def qR (s : Bs) (i : Nat) : Int := (s.q i).1
def qC (s : Bs) (i : Nat) : Int := (s.q i).2
/-- Memory while the steps are reckoned: the numbers in block g, the queue in block q. -/
structure BMem (w0 w : World) (g q N : Nat) (co off cap : Nat) (s : Bs) : Prop where
  out : OwnL w g (g + 1) 3 1 (.slice (some ⟨g, 0, none⟩) N co) N N (fun i => .int .i64 (s.o i))
  que : Tl w q 2 off s.m cap (iiC (qR s) (qC s))
  gl : w0.heap.size ≤ g
  ql : w0.heap.size ≤ q
  gs : g < w.heap.size
  gq : g ≠ q
  bel : Below w0.heap.size w0 w
section
variable {w0 w w' : World} {g q N co off cap : Nat} {s : Bs}
theorem BMem.keep (h : BMem w0 w g q N co off cap s) (h1 : w'.heap[g]? = w.heap[g]?) (h2 : w'.heap[q]? = w.heap[q]?) (hs : w.heap.size ≤ w'.heap.size) (hb : Below w0.heap.size w0 w') : BMem w0 w' g q N co off cap s :=
  ⟨h.out.keep1 h1, h.que.keep h2 (Nat.lt_of_lt_of_le h.que.lt hs), h.gl, h.ql, Nat.lt_of_lt_of_le h.gs hs, h.gq, hb⟩
theorem BMem.below (h : BMem w0 w g q N co off cap s) (hb : Below w.heap.size w w') : BMem w0 w' g q N co off cap s :=
  h.keep (hb.block g h.gs) (hb.block q h.que.lt) hb.size (h.bel.trans (hb.mono h.bel.size))
/-- The queue's k-th cell. -/
theorem BMem.cell (h : BMem w0 w g q N co off cap s) {k : Nat} (hk : k < s.m) : w.cell? ⟨q, off + k * 2, none⟩ = some (.int .i64 (s.q k).1) ∧ w.cell? ⟨q, off + k * 2 + 1, none⟩ = some (.int .i64 (s.q k).2) :=
  ⟨h.que.at_ k 0 hk (by omega), h.que.at_ k 1 hk (by omega)⟩
theorem BMem.num (h : BMem w0 w g q N co off cap s) {i : Nat} (hi : i < N) : w.cell? ⟨g, i, none⟩ = some (.int .i64 (s.o i)) ∧ w.frozen? ⟨g, i, none⟩ = false := by
  obtain ⟨_, b, c⟩ := h.out.cell (by omega) (o := i) (by omega)
  exact ⟨c hi, b⟩
/-- A number is set. -/
theorem BMem.set (h : BMem w0 w g q N co off cap s) {i : Nat} (hi : i < N) (x : Int) : BMem w0 (w.setCell ⟨g, i, none⟩ (.int .i64 x)) g q N co off cap { s with o := updI s.o i x } := by
  refine ⟨(h.out.set (o := i) (by omega) _).congr fun o _ => ?_, h.que.keep (Deep.blk_setCell_other _ _ _ _ h.gq.symm) (by simp [World.setCell]; exact h.que.lt), h.gl, h.ql, by simp [World.setCell]; exact h.gs, h.gq, h.bel.setCell h.gl _⟩
  simp only [updI]
  split <;> rfl
/-- A cell more in the queue. -/
theorem BMem.push (h : BMem w0 w g q N co off cap s) {q' off' cap' : Nat} {p : Int × Int} (ht : Tl w' q' 2 off' (s.m + 1) cap' (iiC (qR { s with q := updP s.q s.m p, m := s.m + 1 }) (qC { s with q := updP s.q s.m p, m := s.m + 1 }))) (hg : w.grownBy w' (some q)) (hq : q' = q ∨ w.heap.size ≤ q') :
    BMem w0 w' g q' N co off' cap' { s with q := updP s.q s.m p, m := s.m + 1 } := by
  have hgs := h.gs
  refine ⟨h.out.keep1 (hg.block g h.gs (fun e => h.gq (by injection e))), ht, h.gl, ?_, Nat.lt_of_lt_of_le h.gs hg.size, ?_, h.bel.grown hg h.bel.size (fun k hk => by injection hk with e; rw [← e]; exact h.ql)⟩
  · have := h.bel.size
    have := h.ql
    omega
  · have := h.gq
    omega
end
theorem mulP_bd {F : Nat → ByteArray} {n : Nat} {p : Int × Int} (h : opP F n p = true) (h2 : n ≤ 12) (h4 : (F 0).size ≤ 12) : (0 : Int) ≤ p.1 * ((F 0).size : Int) ∧ p.1 * ((F 0).size : Int) ≤ 144 := by
  obtain ⟨a1, a2, a3, a4⟩ := opP_bd h
  obtain ⟨i, hi⟩ : ∃ i : Nat, p.1 = i := ⟨p.1.toNat, by omega⟩
  rw [hi]
  exact mulN_bd (i := i) (n := n) (by omega) h2 h4
theorem stepTo_p (p y : Int × Int) (d : Nat) (w : World) (hy : stp p d = y) (hd : d < 4) (hr : -1000 ≤ p.1) (hr' : p.1 ≤ 1000) (hc : -1000 ≤ p.2) (hc' : p.2 ≤ 1000) :
    Calls Tryd.prog 75 #[.agg #[.int .i64 p.1, .int .i64 p.2], .int .u8 (dL d)] w fun e w' => e = .returned (.agg #[.int .i64 y.1, .int .i64 y.2]) ∧ Below w.heap.size w w' := by
  subst hy
  exact stepTo_any p.1 p.2 d w hd hr hr' hc hc'
theorem dL_wrap (d : Nat) : IntKind.u8.wrap (dL d) = dL d := by unfold dL; split <;> (try split) <;> (try split) <;> rfl
/-- The first cell in the queue. -/
theorem BMem.start {w0 w : World} {g N co : Nat} {F : Nat → ByteArray} {a : Int × Int} (ho : OwnL w g (g + 1) 3 1 (.slice (some ⟨g, 0, none⟩) N co) N N (fun _ => .int .i64 (-1))) (ha : ixF F a < N) (hg : w0.heap.size ≤ g) (hg' : g < w.heap.size) (hb : Below w0.heap.size w0 w) :
    BMem w0 ((w.setCell ⟨g, ixF F a, none⟩ (.int .i64 0)).alloc (.cells #[.int .i64 a.1, .int .i64 a.2] 38)) g w.heap.size N co 0 1 (bs0 F a) := by
  have hsz : (w.setCell ⟨g, ixF F a, none⟩ (.int .i64 0)).heap.size = w.heap.size := by simp [World.setCell]
  refine ⟨?_, ?_, hg, hb.size, (by first | omega | (simp; done) | (simp; omega)), by omega, (hb.setCell hg _).alloc (by rw [hsz]; exact hb.size) _⟩
  · refine OwnL.keep1 (w := w.setCell ⟨g, ixF F a, none⟩ (.int .i64 0)) ((ho.set (o := ixF F a) (by omega) _).congr fun o _ => ?_) (Deep.blk_alloc_lt _ _ _ (by rw [hsz]; exact hg'))
    simp only [bs0, updI]
    split <;> rfl
  · have hh : ((w.setCell ⟨g, ixF F a, none⟩ (.int .i64 0)).alloc (.cells #[.int .i64 a.1, .int .i64 a.2] 38)).heap[w.heap.size]? = some (.cells #[.int .i64 a.1, .int .i64 a.2] 38 (0, 0)) := by
      have := heap_alloc_new (w.setCell ⟨g, ixF F a, none⟩ (.int .i64 0)) (.cells #[.int .i64 a.1, .int .i64 a.2] 38)
      rw [hsz] at this
      exact this
    refine ⟨(by first | omega | (simp; done) | (simp; omega)), Nat.le_refl _, by unfold maxLen; omega, fun o => by simp only [World.frozen?]; rw [hh]; simp, fun j hj => ?_, fun i j hi hj => ?_⟩
    · simp only [World.cell?, hh, Nat.zero_add]
      match j, hj with
      | 0, _ => rfl
      | 1, _ => rfl
    · have hi0 : i = 0 := by simp [bs0] at hi; omega
      subst hi0
      simp only [World.cell?, hh, Nat.zero_add, Nat.zero_mul]
      match j, hj with
      | 0, _ => rfl
      | 1, _ => rfl
theorem infoCell2 : (Tryd.prog.info? 38).map (fun i => (i.zero, i.size, i.bytes)) = some (some (.agg #[.int .i64 0, .int .i64 0]), 2, 16) := by kernel_rfl
set_option maxRecDepth 100000 in
set_option maxHeartbeats 3200000 in
theorem stepsFrom_any (F : Nat → ByteArray) (n : Nat) (r c : Int) (lo hi : Nat) (v : Value) (w : World) (hv : Sl w lo hi 1 v n (sC F)) (hhi : hi ≤ w.heap.size) (hg : flB F n = true) (ho : opB F n r c = true) :
    Calls Tryd.prog 72 #[v, .agg #[.int .i64 r, .int .i64 c]] w fun e w' => ∃ g, e = .returned (.slice (some ⟨g, 0, none⟩) (n * (F 0).size) (n * (F 0).size)) ∧ OwnL w' g (g + 1) 3 1 (.slice (some ⟨g, 0, none⟩) (n * (F 0).size) (n * (F 0).size)) (n * (F 0).size) (n * (F 0).size) (fun i => .int .i64 (stF F n (r, c) i)) ∧ w.heap.size ≤ g ∧ g < w'.heap.size ∧ Below w.heap.size w w' := by
  obtain ⟨A, cap, rfl, hcap, hA⟩ := hv.open_
  obtain ⟨g1, g2, g3, g4, _, _⟩ := flB_facts hg
  obtain ⟨blk, off, rfl, h1, h2, h3⟩ := hA (by omega)
  have c0 : w.cell? ⟨blk, off, none⟩ = some (.string (F 0)) := by simpa [sC] using h3 0 0 (by omega) (by omega)
  have l0 : blk < w.heap.size := by omega
  have hop : opP F n (r, c) = true := ho
  obtain ⟨N, hN⟩ : ∃ N, N = n * (F 0).size := ⟨_, rfl⟩
  have hN1 : 1 ≤ N ∧ N ≤ 144 := by
    have h5 : n * (F 0).size ≤ 12 * 12 := Nat.mul_le_mul g2 g4
    have h6 : 1 * 1 ≤ n * (F 0).size := Nat.mul_le_mul g1 g3
    omega
  have m1 : (n : Int) * ((F 0).size : Int) = (N : Int) := by rw [hN]; push_cast; rfl
  have m2 : IntKind.i64.wrap ((n : Int) * ((F 0).size : Int)) = (N : Int) := by rw [m1]; exact IntWalk.i64_in _ (by omega)
  have HN := hide hN
  have mb0 : (0 : Int) ≤ r * ((F 0).size : Int) ∧ r * ((F 0).size : Int) ≤ 144 := mulP_bd hop g2 g4
  have z0 : IntKind.i64.wrap (r * ((F 0).size : Int)) = r * ((F 0).size : Int) := IntWalk.i64_in _ (by simpa using (show -9223372036854775808 ≤ r * ((F 0).size : Int) ∧ r * ((F 0).size : Int) ≤ 9223372036854775807 by omega))
  have HA0 : Hid (r * ((F 0).size : Int) + c = (ixF F (r, c) : Int)) := ix_cast (p := (r, c)) ho
  have HI0 : Hid (ixF F (r, c) < N) := by show _ < _; rw [hN]; exact ix_lt (p := (r, c)) ho
  rw [← hN]
  have bd0 := opP_bd hop
  have m0 : r * ((F 0).size : Int) + c = (ixF F (r, c) : Int) := HA0.out
  have hixN := HI0.out
  have HG := hide hg
  have HOP := hide hop
  obtain ⟨ii, hii, iz0, iz1, iz2⟩ := info_parts infoCell2
  clear hA hN h3 hg hop ho
  go_enter Tryd.func72, Tryd.ntmps72
  go_wp2_with fail
  refine (Repeat_any N (w.heap.size + 1) _ (by simpa using heap_alloc_new (w.alloc (.cells #[.int .i64 r, .int .i64 c] 38)) (.cells #[.int .i64 (-1)] 3)) hN1.1 (by omega)).mono ?_
  rintro e w1 ⟨g, rfl, hog, hgl, hgs, hb1⟩
  have hz1 := hb1.size
  simp at hz1 hgl
  have px0 : w1.cell? ⟨w.heap.size, 0, none⟩ = some (.int .i64 r) := (hb1.cell (p := ⟨w.heap.size, 0, none⟩) (by simp; omega)).trans ((World.cell?_alloc_lt _ _ _ (by simp)).trans (World.cell?_alloc_new _ _ _ _))
  have px1 : w1.cell? ⟨w.heap.size, 1, none⟩ = some (.int .i64 c) := (hb1.cell (p := ⟨w.heap.size, 1, none⟩) (by simp; omega)).trans ((World.cell?_alloc_lt _ _ _ (by simp)).trans (World.cell?_alloc_new _ _ _ _))
  obtain ⟨⟨u0, hu0⟩, hf0, _⟩ := hog.cell (by omega) (o := ixF F (r, c)) (by omega)
  have hb01 : Below w.heap.size w w1 := (by repeat (first | (with_reducible exact Below.refl _ _) | (with_reducible refine below_ov ?_ ?_) | (with_reducible refine Below.setCell ?_ ?_ _) | (with_reducible refine Below.alloc ?_ ?_ _) | (with_reducible refine Below.drew ?_) | (with_reducible refine below_drewN ?_ _) | (refine Below.trans ?_ (Below.mono ‹Below _ _ _› (by first | omega | (simp; done) | (simp; omega)))) | exact Below.refl _ _ | omega | (focus (simp; done)) | (focus (simp; omega))))
  have hst := BMem.start (F := F) (a := (r, c)) (w0 := w) hog hixN (by omega) hgs hb01
  have HST := hide hst
  have hne0 : ¬ g = w.heap.size := by omega
  have lp0 : w.heap.size < w1.heap.size := by omega
  clear hst
  go_wp2_with fail
  clear px0 px1 hu0 hf0 z0 m0
  go_loopg [7, 8] N (fun gn qv kv wr => ∃ (k f q off cap : Nat) (s : Bs), qv = .slice (some ⟨q, off, none⟩) s.m cap ∧ kv = .int .i64 k ∧ k ≤ s.m ∧ N - k ≤ gn ∧ N ≤ f + k ∧ Hid (BInv F n (r, c) s) ∧ Hid (bfs F n f k s = bsF F n (r, c)) ∧ Hid (BMem w wr g q N N off cap s))
  case atStart => exact ⟨0, N, w1.heap.size, 0, 1, bs0 F (r, c), by simp [bs0], rfl, by simp [bs0], by omega, by omega, BInv.start HOP.out, by show _ = _; rw [HN.out]; rfl, show BMem _ _ _ _ _ _ _ _ _ from by simpa using HST.out⟩
  case round =>
    obtain ⟨k, f, q, off, cap, s, rfl, rfl, hk, hgk, hfk, HI, HB, HM⟩ := hrel
    have hmN : s.m ≤ N := by rw [HN.out]; exact HI.out.m_le
    by_cases hkm : k < s.m
    · obtain ⟨f, rfl⟩ : ∃ f', f = f' + 1 := ⟨f - 1, by omega⟩
      have HP : Hid (opP F n (s.q k) = true ∧ 0 ≤ s.o (ixF F (s.q k))) := HI.out.hq k hkm
      obtain ⟨wo, ewo⟩ : ∃ wo : World, wo = wr := ⟨_, rfl⟩
      subst ewo
      have hwo := HM.out.bel.size
      go_wp2_with fail
      go_loopg [7] 5 (fun gi qv wr => ∃ (d q' off' cap' : Nat) (s' : Bs), d ≤ 4 ∧ 4 - d < gi ∧ qv = .slice (some ⟨q', off', none⟩) s'.m cap' ∧ Hid (s' = pshN F n (s.q k) d s) ∧ Hid (BMem w wr g q' N N off' cap' s') ∧ Hid (wr.heap[wo.heap.size]? = some (.stringIter dLs d)) ∧ wo.heap.size ≠ g ∧ wo.heap.size ≠ q' ∧ wo.heap.size < wr.heap.size)
      case atStart => exact ⟨0, q, off, cap, s, by omega, by omega, rfl, rfl, HM.out.below ((Below.refl _ _).alloc (Nat.le_refl _) _), World.iter_heap _ _ _, by have := HM.out.gs; omega, by have := HM.out.que.lt; omega, by simp [World.iter]⟩
      case round =>
        obtain ⟨d, q', off', cap', s', hd, hgi, rfl, HS, HM', HIT, hng, hnq, hil⟩ := hrel
        obtain ⟨a1, a2, a3, a4⟩ := HI.out.pshN HP.out.1 HP.out.2 hd
        rw [← HS.out] at a1 a2 a3 a4
        have HI' := hide a1
        have HO' := hide a2
        have hqk : s'.q k = s.q k := a4 k hkm
        have HQK := hide hqk
        have hkm' : k < s'.m := by omega
        have hm'N : s'.m ≤ N := by rw [HN.out]; exact a1.m_le
        clear a1 a2 a3 a4 hqk
        by_cases hd4 : d < 4
        · have hnx := fun ty => run_next_d (P := Tryd.prog) wr wo.heap.size d ty HIT.out hd4
          obtain ⟨W1, hW1⟩ : ∃ W1, W1 = setIter wr wo.heap.size dLs (d + 1) := ⟨_, rfl⟩
          rw [← hW1] at hnx
          have M1 : Hid (BMem w W1 g q' N N off' cap' s') := by
            show BMem _ _ _ _ _ _ _ _ _
            rw [hW1]
            exact HM'.out.keep (setIter_other hng.symm _ _) (setIter_other hnq.symm _ _) (by rw [setIter_size]; exact Nat.le_refl _) (setIter_below HM'.out.bel hwo _ _)
          have I1 : Hid (W1.heap[wo.heap.size]? = some (.stringIter dLs (d + 1))) := by show _ = _; rw [hW1]; exact setIter_at hil _ _
          have hil1 : wo.heap.size < W1.heap.size := by rw [hW1, setIter_size]; exact hil
          clear hW1
          obtain ⟨qc0, qc1⟩ := M1.out.cell hkm'
          rw [HQK.out] at qc0 qc1
          have dw := dL_wrap d
          have hdw : IntKind.wrap .u8 (dL d) = dL d := dw
          obtain ⟨y, hy⟩ : ∃ y, stp (s.q k) d = y := ⟨_, rfl⟩
          have HY := hide hy
          obtain ⟨b1, b2, b3, b4⟩ := opP_bd HP.out.1
          have lq1 := M1.out.que.lt
          clear hy
          go_wp2_with fail
          refine (stepTo_p (s.q k) y d _ HY.out hd4 (by omega) (by omega) (by omega) (by omega)).mono ?_
          rintro e w2 ⟨rfl, hb2⟩
          have hz2 := hb2.size
          clear qc0 qc1 hnx
          go_wp2_with fail
          have hbw2 : Below w.heap.size w w2 := M1.out.bel.trans (hb2.mono M1.out.bel.size)
          have hzw2 := hbw2.size
          refine (isOpen_any F n y.1 y.2 lo hi _ _ (hv.below (B := w.heap.size) (hbw2.alloc hbw2.size _) hhi) (by simp; omega) HG.out).mono ?_
          rintro e w3 ⟨rfl, hb3⟩
          have hz3 := hb3.size
          simp at hz3
          have ny0 : w3.cell? ⟨w2.heap.size, 0, none⟩ = some (.int .i64 y.1) := (hb3.cell (p := ⟨w2.heap.size, 0, none⟩) (by simp)).trans (World.cell?_alloc_new _ _ _ _)
          have ny1 : w3.cell? ⟨w2.heap.size, 1, none⟩ = some (.int .i64 y.2) := (hb3.cell (p := ⟨w2.heap.size, 1, none⟩) (by simp)).trans (World.cell?_alloc_new _ _ _ _)
          have M3 : Hid (BMem w w3 g q' N N off' cap' s') := ((M1.out.below hb2).below ((Below.refl _ _).alloc (Nat.le_refl _) _)).below hb3
          have I3 : Hid (w3.heap[wo.heap.size]? = some (.stringIter dLs (d + 1))) := by
            show _ = _
            rw [hb3.block _ (by simp; omega), Deep.blk_alloc_lt _ _ _ (by omega), hb2.block _ hil1]
            exact I1.out
          have hly : w2.heap.size < w3.heap.size := by omega
          have hlq := M3.out.que.lt
          have hlg := M3.out.gs
          cases e1 : opB F n y.1 y.2 with
          | false =>
            have HS' : Hid (s' = pshN F n (s.q k) (d + 1) s) := by
              show _ = _
              rw [pshN, ← HS.out, psh, pshB, HY.out, show opP F n y = false from e1]
              rfl
            go_wp2_with fail
            go_roundg (4 - d)
            case measure => omega
            case rel => exact ⟨d + 1, q', off', cap', s', by omega, by omega, rfl, HS', M3, I3, hng, hnq, by omega⟩
          | true =>
            have hoy : opP F n y = true := e1
            have mb := mulP_bd hoy g2 g4
            have z0 : IntKind.i64.wrap (y.1 * ((F 0).size : Int)) = y.1 * ((F 0).size : Int) := IntWalk.i64_in _ (by omega)
            have m0 := ix_cast hoy
            have hiy : ixF F y < N := by rw [HN.out]; exact ix_lt hoy
            obtain ⟨oc, of⟩ := M3.out.num hiy
            have HOY := hide hoy
            obtain ⟨y1, y2, y3, y4⟩ := opP_bd hoy
            cases e2 : decide (s'.o (ixF F y) < 0) with
            | false =>
              have HS' : Hid (s' = pshN F n (s.q k) (d + 1) s) := by
                show _ = _
                rw [pshN, ← HS.out, psh, pshB, HY.out, e2]
                simp
              clear hoy
              go_wp2_with fail
              go_roundg (4 - d)
              case measure => omega
              case rel => exact ⟨d + 1, q', off', cap', s', by omega, by omega, rfl, HS', M3, I3, hng, hnq, by omega⟩
            | true =>
              clear hoy
              have mbp := mulP_bd HP.out.1 g2 g4
              have zp : IntKind.i64.wrap ((s.q k).1 * ((F 0).size : Int)) = (s.q k).1 * ((F 0).size : Int) := IntWalk.i64_in _ (by omega)
              have mp := ix_cast HP.out.1
              have hip : ixF F (s.q k) < N := by rw [HN.out]; exact ix_lt HP.out.1
              obtain ⟨pc, _⟩ := M3.out.num hip
              obtain ⟨qc0, qc1⟩ := M3.out.cell hkm'
              rw [HQK.out] at qc0 qc1
              have hob := HI'.out.hb (ixF F (s.q k))
              have zo : IntKind.i64.wrap (s'.o (ixF F (s.q k)) + 1) = s'.o (ixF F (s.q k)) + 1 := IntWalk.i64_in _ (by omega)
              go_wp2_with fail
              go_region
              obtain ⟨W4, hW4⟩ : ∃ W4, W4 = (w3.setCell ⟨g, ixF F y, none⟩ (.int .i64 (s'.o (ixF F (s.q k)) + 1))).drew := ⟨_, rfl⟩
              rw [← hW4]
              have M4 : BMem w W4 g q' N N off' cap' { s' with o := updI s'.o (ixF F y) (s'.o (ixF F (s.q k)) + 1) } := by
                rw [hW4]
                exact (M3.out.set hiy _).keep rfl rfl (Nat.le_refl _) (Below.drew (M3.out.set hiy _).bel)
              have hz4 : W4.heap.size = w3.heap.size := by rw [hW4]; simp [World.setCell]
              have hne4 : w2.heap.size ≠ g := by have := M1.out.gs; omega
              have hk4 : ∀ b, b ≠ g → W4.heap[b]? = w3.heap[b]? := fun b hb => by rw [hW4]; exact Deep.blk_setCell_other _ _ _ _ hb
              have ny0' : W4.cell? ⟨w2.heap.size, 0, none⟩ = some (.int .i64 y.1) := (World.cell?_of_block (a := ⟨w2.heap.size, 0, none⟩) (hk4 _ hne4)).trans ny0
              have ny1' : W4.cell? ⟨w2.heap.size, 1, none⟩ = some (.int .i64 y.2) := (World.cell?_of_block (a := ⟨w2.heap.size, 1, none⟩) (hk4 _ hne4)).trans ny1
              have I4 : Hid (W4.heap[wo.heap.size]? = some (.stringIter dLs (d + 1))) := (hk4 _ hng).trans I3.out
              have HS4 : Hid (pshN F n (s.q k) (d + 1) s = ⟨updI s'.o (ixF F y) (s'.o (ixF F (s.q k)) + 1), updP s'.q s'.m y, s'.m + 1⟩) := by
                show _ = _
                rw [pshN, ← HS.out, psh, pshB, HY.out, show opP F n y = true from e1, e2]
                rfl
              have HM4 := hide M4
              have M5 : BMem w (W4.alloc (.cells #[.int .i64 y.1, .int .i64 y.2] 38)) g q' N N off' cap' { s' with o := updI s'.o (ixF F y) (s'.o (ixF F (s.q k)) + 1) } := M4.below ((Below.refl _ _).alloc (Nat.le_refl _) _)
              obtain ⟨q2, off2, cap2, W6, hrun, ht6, hg6, hq6⟩ := run_append_tl (P := Tryd.prog) 26 26 38 ii _ 2 16 Tryd.underlying26 hii iz0 iz1 iz2 rfl (by decide) M5.que (c' := iiC (qR ⟨updI s'.o (ixF F y) (s'.o (ixF F (s.q k)) + 1), updP s'.q s'.m y, s'.m + 1⟩) (qC ⟨updI s'.o (ixF F y) (s'.o (ixF F (s.q k)) + 1), updP s'.q s'.m y, s'.m + 1⟩)) ⟨W4.heap.size, 0, none⟩ 1
                (fun j u hu => by
                  rw [Addr.add_lit, Nat.zero_add]
                  refine (World.cell?_alloc_new _ _ _ _).trans ?_
                  match j, hu with
                  | 0, hu => simpa [List.range, List.range.loop, iiC, qR, updP] using hu
                  | 1, hu => simpa [List.range, List.range.loop, iiC, qC, updP] using hu)
                (fun j hj => by unfold iiC; split <;> rfl)
                (fun i j hi hj => by
                  have : ¬ i = s'.m := by show ¬ i = s'.m; simp at hi; omega
                  simp only [iiC, qR, qC, updP, this, if_false])
                (by unfold maxLen; simp; omega) (by simp; omega)
              have M6 := M5.push ht6 hg6 hq6
              have HM6 := hide M6
              have hlt5 : wo.heap.size < (W4.alloc (.cells #[.int .i64 y.1, .int .i64 y.2] 38)).heap.size := by simp; omega
              have I6 : Hid (W6.heap[wo.heap.size]? = some (.stringIter dLs (d + 1))) := (hg6.block _ hlt5 (fun e => hnq (by injection e))).trans ((Deep.blk_alloc_lt _ _ _ (by omega)).trans I4.out)
              have hz6 := hg6.size
              have hnq2 : wo.heap.size ≠ q2 := by simp at hq6 hlt5; omega
              have hrun' : (Builtin.append_ #[26, 26] 26 #[.slice (some ⟨q', off', none⟩) s'.m cap', .slice (some ⟨W4.heap.size, 0, none⟩) 1 1]).run Tryd.prog (W4.alloc (.cells #[.int .i64 y.1, .int .i64 y.2] 38)) = .ok (.slice (some ⟨q2, off2, none⟩) (s'.m + 1) cap2) W6 := hrun
              have HRUN := hide hrun'
              have HZ4 := hide hz4
              clear qc0 qc1 pc oc of mb z0 m0 mbp zp mp zo hrun hrun' ht6 M4 M5 M6 hk4 hW4 ny0 ny1 hq6 hg6 hz4
              go_wp2_with (at_builtin; refine Lib.wpList_append_run _ rfl _ _ _ _ rfl _ _ rfl rfl _ _ HRUN.out ?_)
              go_wp2_with fail
              go_roundg (4 - d)
              case measure => omega
              case rel => exact ⟨d + 1, q2, off2, cap2, _, by omega, by omega, rfl, HS4.out.symm, HM6.out, I6, hng, hnq2, by simp at hz6 hlt5; omega⟩
        · obtain rfl : d = 4 := by omega
          have hnx := fun ty => run_next_done (P := Tryd.prog) wr wo.heap.size dLs 4 ty HIT.out (by decide)
          go_wp2_with fail
          go_roundg (N - (k + 1))
          case measure => omega
          case rel => exact ⟨k + 1, f, q', off', cap', s', rfl, by go_num, by omega, by omega, by omega, HI'.out, by show _ = _; rw [HS.out, ← bfs_next hkm]; exact HB.out, HM'.out⟩
    · obtain rfl : k = s.m := by omega
      have HE : Hid (s = bsF F n (r, c)) := by show _ = _; rw [← HB.out, bfs_done (Nat.lt_irrefl _)]
      go_wp2_with fail
      go_ret
      refine ⟨g, rfl, ?_, HM.out.gl, HM.out.gs, HM.out.bel⟩
      have h := HM.out.out
      rw [HE.out] at h
      exact h

end Go.Proofs.YtpckhpkbdanjoaaDoor
