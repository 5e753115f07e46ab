/-
  General words on rows of the call's own: cells set in a row, a row that is one longer, an element put between (taken together by gen_ins3.py).
-/
import Derived.Test.YtkikjneamjmdlaaPRow
import Derived.Lib.SliceRun
import Derived.Deep.RegionLaw
import Derived.Lib.AppendZeros
import Derived.Lib.AppendZerosOnto
import Derived.Lib.Overlaps
import Derived.Laws.Externs
import Derived.Laws.NewBlocks
namespace Go.Proofs.Ytkikjneamjmdlaa
set_option linter.unusedVariables false
set_option linter.unusedSimpArgs false
open Go.RowKit

section
variable {w w' w'' : World} {lo hi lo' hi' E sz n m K cap g : Nat} {v u : Value} {cc cc' : Nat → Value} {c : Nat → Nat → Value} {xs : List Value}
theorem OwnL.set (h : OwnL w lo hi E sz (.slice (some ⟨g, 0, none⟩) n cap) n K cc) {o : Nat} (ho : o < n * sz) (u : Value) : OwnL (w.setCell ⟨g, o, none⟩ u) lo hi E sz (.slice (some ⟨g, 0, none⟩) n cap) n K (fun p => if p = o then u else cc p) := by
  rcases h with ⟨rfl, _⟩ | ⟨g', cap', xs, h0, a1, a2, a3, a4, a5⟩
  · omega
  · injection h0 with e1 e2 e3
    injection e1 with e1
    injection e1 with e1
    subst e1 e3
    refine .inr ⟨g, cap, _, rfl, a1, a2, a3, (a4.stored o u).1, fun p hp hp' => ?_⟩
    have hl := a4.1
    by_cases h1 : p = o
    · subst h1
      simp only [if_true]
      exact List.getElem?_set_self (by omega)
    · simp only [h1, if_false]
      rw [List.getElem?_set_ne (by omega)]
      exact a5 p hp hp'
theorem Own.lf (h : Own w lo hi E sz v n n c) (hsz : 0 < sz) : OwnL w lo hi E sz v n (n * sz) (fun o => c (o / sz) (o % sz)) := by
  obtain ⟨xs, ⟨hl, h1⟩, h2, h3⟩ := h
  rcases h1 with ⟨rfl, rfl⟩ | ⟨g, cap, cur, rfl, hg, hh, hnc, r⟩
  · exact .inl ⟨rfl, none, 0, rfl⟩
  · refine .inr ⟨g, cap, xs, rfl, hg, h2 g rfl, hnc, ⟨hl, .inr ⟨g, cap, cur, rfl, hg, hh, hnc, r⟩⟩, fun o h _ => ?_⟩
    have h5 := h3 (o / sz) (o % sz) ((Nat.div_lt_iff_lt_mul hsz).2 h) (Nat.mod_lt _ hsz)
    rw [Nat.div_add_mod'] at h5
    exact h5
theorem OwnL.keep1 (h : OwnL w g (g + 1) E sz v n K cc) (hk : w'.heap[g]? = w.heap[g]?) : OwnL w' g (g + 1) E sz v n K cc := h.keep fun b h1 h2 => by
  obtain rfl : b = g := by omega
  exact hk
theorem OwnL.setCells : ∀ {vs : List Value} {w : World} {o : Nat} {cc : Nat → Value}, OwnL w lo hi E sz (.slice (some ⟨g, 0, none⟩) n cap) n K cc → o + vs.length ≤ n * sz →
    OwnL (w.setCells g o vs) lo hi E sz (.slice (some ⟨g, 0, none⟩) n cap) n K (fun p => if o ≤ p ∧ p < o + vs.length then vs.getD (p - o) (.bool false) else cc p)
  | [], w, o, cc, h, _ => h.congr fun p _ => by
    have : ¬ (o ≤ p ∧ p < o + 0) := by omega
    show _ = if o ≤ p ∧ p < o + 0 then _ else _
    rw [if_neg this]
  | v :: r, w, o, cc, h, hl => by
    simp only [List.length_cons] at hl
    refine (OwnL.setCells (vs := r) (h.set (o := o) (by omega) v) (by omega)).congr fun p _ => ?_
    simp only [List.length_cons]
    rcases Nat.lt_trichotomy p o with h1 | h1 | h1
    · have a1 : ¬ (o + 1 ≤ p ∧ p < o + 1 + r.length) := by omega
      have a2 : ¬ (o ≤ p ∧ p < o + (r.length + 1)) := by omega
      have a3 : ¬ p = o := by omega
      simp only [a1, a2, a3, if_false]
    · subst h1
      have a1 : ¬ (p + 1 ≤ p ∧ p < p + 1 + r.length) := by omega
      have a2 : p ≤ p ∧ p < p + (r.length + 1) := by omega
      simp only [a1, a2, if_false, if_true, Nat.sub_self]
      simp
    · by_cases h2 : p < o + 1 + r.length
      · have a1 : o + 1 ≤ p ∧ p < o + 1 + r.length := by omega
        have a2 : o ≤ p ∧ p < o + (r.length + 1) := by omega
        simp only [a1, a2, if_true, and_self]
        obtain ⟨q, rfl⟩ : ∃ q, p = o + 1 + q := ⟨p - (o + 1), by omega⟩
        rw [show o + 1 + q - (o + 1) = q by omega, show o + 1 + q - o = q + 1 by omega]
        simp
      · have a1 : ¬ (o + 1 ≤ p ∧ p < o + 1 + r.length) := by omega
        have a2 : ¬ (o ≤ p ∧ p < o + (r.length + 1)) := by omega
        have a3 : ¬ p = o := by omega
        simp only [a1, a2, a3, if_false]
theorem OwnL.cap_le (h : OwnL w lo hi E sz (.slice (some ⟨g, 0, none⟩) n cap) n K cc) (hn : 0 < n) : n ≤ cap ∧ cap ≤ maxLen := by
  rcases h with ⟨h0, _⟩ | ⟨g', cap', xs, h0, a1, a2, a3, ⟨hl, a4⟩, a5⟩
  · omega
  · injection h0 with e1 e2 e3
    subst e3
    rcases a4 with ⟨a4, _⟩ | ⟨x, y, cur, he, hb, hh, hnc, hcm, hcs, ht⟩
    · cases a4
    · injection he with _ _ e3
      subst e3
      exact ⟨a3, hcm⟩
theorem Only.setCells {g : Nat} : ∀ {vs : List Value} {w' : World} {o : Nat}, Only g (g + 1) w w' → Only g (g + 1) w (w'.setCells g o vs)
  | [], _, _, h => h
  | v :: r, w', o, h => Only.setCells (vs := r) (h.setCell (a := ⟨g, o, none⟩) (Nat.le_refl _) (Nat.lt_succ_self _) v)
theorem OwnL.rowL (h : OwnL w lo hi E sz v n (n * sz) (fun o => c (o / sz) (o % sz))) (hn : 0 < n) (hsz : 0 < sz) : w.ownsRow lo E sz v n (rowL c sz n) := by
  rcases h with ⟨h0, _⟩ | ⟨g, cap, xs, rfl, h1, h2, h3, h4, h5⟩
  · omega
  · have : xs = Go.Proofs.Ytkikjneamjmdlaa.rowL c sz n := by
      apply List.ext_getElem?
      intro o
      rcases Nat.lt_or_ge o (n * sz) with ho | ho
      · rw [h5 o ho ho]
        have e2 := rowL_get c sz ((Nat.div_lt_iff_lt_mul hsz).2 ho) (Nat.mod_lt o hsz)
        rw [Nat.div_add_mod'] at e2
        exact e2.symm
      · rw [List.getElem?_eq_none (by rw [h4.1]; omega), List.getElem?_eq_none (by rw [rowL_len]; omega)]
    rw [← this]
    exact h4
theorem row_at (h : w.ownsRow lo E sz v n (rowL c sz n)) (hsz : 0 < sz) (hg : v.ownBlock = some g) : OwnL w g (g + 1) E sz v n (n * sz) (fun o => c (o / sz) (o % sz)) := by
  have h1 := (own_row h).lf hsz
  rcases h1 with h1 | ⟨g', cap, ys, rfl, a1, a2, a3, ⟨a4, a5⟩, a6⟩
  · exact .inl h1
  · injection hg with hg
    have hg : g' = g := hg
    subst hg
    rcases a5 with ⟨a5, _⟩ | ⟨x, y, cur, he, hb, hh, r⟩
    · cases a5
    · injection he with e1 e2 e3
      injection e1 with e1
      injection e1 with e1
      subst e1 e3
      exact .inr ⟨g', cap, ys, rfl, Nat.le_refl _, Nat.lt_succ_self _, a3, ⟨a4, .inr ⟨g', cap, cur, rfl, Nat.le_refl _, hh, r⟩⟩, a6⟩
theorem OwnL.ext1 (h : OwnL w lo hi E sz (.slice (some ⟨g, 0, none⟩) n cap) n K cc) (hn : 0 < n) (hc : n + 1 ≤ cap) : ∃ cc', OwnL w lo hi E sz (.slice (some ⟨g, 0, none⟩) (n + 1) cap) (n + 1) ((n + 1) * sz) cc' ∧ ∀ o, o < K → o < n * sz → cc' o = cc o := by
  rcases h with ⟨h0, _⟩ | ⟨g', cap', xs, h0, a1, a2, a3, ⟨hl, a4⟩, a5⟩
  · omega
  · injection h0 with e1 e2 e3
    injection e1 with e1
    injection e1 with e1
    subst e1 e3
    rcases a4 with ⟨a4, _⟩ | ⟨x, y, cur, he, hb, hh, hnc, hcm, hcs, ht⟩
    · cases a4
    · injection he with e1 _ e3
      injection e1 with e1
      injection e1 with e1
      subst e1 e3
      have hle : (n + 1) * sz ≤ cap * sz := Nat.mul_le_mul_right sz hc
      have hns : n * sz ≤ (n + 1) * sz := Nat.mul_le_mul_right sz (Nat.le_succ n)
      have hlen : (cur.toList.take ((n + 1) * sz)).length = (n + 1) * sz := by rw [List.length_take, Array.length_toList, hcs]; omega
      refine ⟨fun o => (cur.toList.take ((n + 1) * sz)).getD o (.bool false), .inr ⟨g, cap, cur.toList.take ((n + 1) * sz), rfl, a1, a2, hc, ⟨hlen, .inr ⟨g, cap, cur, rfl, hb, hh, hc, hcm, hcs, rfl⟩⟩, fun o ho _ => ?_⟩, fun o ho ho' => ?_⟩
      · simp [List.getD, List.getElem?_eq_getElem (show o < (cur.toList.take ((n + 1) * sz)).length by omega)]
      · have h1 := a5 o ho ho'
        rw [← ht, List.getElem?_take, if_pos ho'] at h1
        show (cur.toList.take ((n + 1) * sz)).getD o (.bool false) = cc o
        rw [List.getD, List.getElem?_take, if_pos (by omega), h1]
        rfl
end
theorem setCells_size (b : Nat) : ∀ (vs : List Value) (o : Nat) (w : World), (w.setCells b o vs).heap.size = w.heap.size
  | [], _, _ => rfl
  | v :: r, o, w => by rw [World.setCells, setCells_size b r]; simp [World.setCell]
theorem setCells_other (b : Nat) {k : Nat} (hk : k ≠ b) : ∀ (vs : List Value) (o : Nat) (w : World), (w.setCells b o vs).heap[k]? = w.heap[k]?
  | [], _, _ => rfl
  | v :: r, o, w => by rw [World.setCells, setCells_other b hk r]; exact Deep.blk_setCell_other _ _ _ _ hk
theorem run_copy_wide {P : Program} (w : World) (dT sT ty elem : TypeId) (b o dLen dCap : Nat) (a : Addr) (sLen sCap sz : Nat) (cs : List Value)
    (hu : P.underlying dT = some (.slice elem)) (hs : (P.info? elem).map (·.size) = some sz) (hn : cs.length = Nat.min sLen dLen * sz)
    (hsrc : ∀ j v, cs[j]? = some v → w.cell? (a.add j) = some v) (hc : ∀ j, j < cs.length → (w.cell? ⟨b, o + j, none⟩).isSome = true) (hf : ∀ j, j < cs.length → w.frozen? ⟨b, o + j, none⟩ = false) (h1 : ∀ v ∈ cs, v.oneCell' = true) :
    (Builtin.copy_ #[dT, sT] ty #[.slice (some ⟨b, o, none⟩) dLen dCap, .slice (some a) sLen sCap]).run P w = .ok (goInt (Nat.min sLen dLen)) (w.setCells b o cs) := by
  have hl := run_loadCells_list (P := P) w a cs hsrc
  have hst := run_storeCells_cells (P := P) b o cs 0 w (by simpa using hc) (by simpa using hf) h1
  rw [hn] at hl
  cases hq : P.info? elem with
  | none => simp [hq] at hs
  | some i =>
    have hi : i.size = sz := by simpa [hq] using hs
    simp [Builtin.copy_, run_underlying hu, Builtin.lenOf, Builtin.firstCells, sizeOf, typeInfo, hq, hi, hl, hst]
theorem wpList_copy_at {P : Program} (w : World) {ops : Array Oper} {rest : List Oper} {o : Oper} {a : Act} {Q : Exit → Act → World → Prop} (hgd : o.guard = none) (d s : Operand) (t t' : TypeId)
    (ho : o.op = .call { callee := .builtin .copy, args := #[d, s], argTypes := #[t, t'] }) (v u : Value) (hd : a.eval d = v) (hs : a.eval s = u) {v' : Value} {w' : World}
    (hr : (Builtin.copy_ #[t, t'] o.type #[v, u]).run P w = .ok v' w') (h : wpList P ops Q rest (a.put o.dst v') w') : wpList P ops Q (o :: rest) a w :=
  wpList_plain hgd fun _ hK => by
    unfold Oper.wp execOp
    simp only [ho, resolve, invoke, builtin, Sem.run_bind, Sem.run_pure, Result.andThen_ok, List.map_toArray, List.map_cons, List.map_nil, hd, hs, hr]
    exact hK _ _ h
theorem step_copy_at {P : Program} {ops : Array Oper} {o : Oper} {a : Act} {w : World} {K : Act → World → Prop} {Q : Exit → Act → World → Prop} {E : Prop}
    (hg : o.guard = none) (d x : Operand) (dT sT : TypeId) (hop : o.op = Op.call { callee := Callee.builtin Builtin.copy, args := #[d, x], argTypes := #[dT, sT] })
    (v u : Value) (hd : a.eval d = v) (hx : a.eval x = u) {v' : Value} {w' : World} (hr : (Builtin.copy_ #[dT, sT] o.type #[v, u]).run P w = .ok v' w') (hK : K (a.put o.dst v') w') :
    if Region.wanted o (yielded ops a.tmps) = true then Oper.wp P o a w K Q else E := by
  have hw : Region.wanted o (yielded ops a.tmps) = true := by simp [Region.wanted, hg]
  rw [if_pos hw]
  unfold Oper.wp
  simp [execOp, hop, resolve, invoke, builtin, hd, hx, hr, Result.andThen]
  exact hK
def insC (k : Nat) (c : Nat → Nat → Value) (x : Nat → Value) (i j : Nat) : Value := if i < k then c i j else if i = k then x j else c (i - 1) j

end Go.Proofs.Ytkikjneamjmdlaa
