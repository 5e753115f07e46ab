/-
  Walks: a team put into a board of the call's own, at a place: slices.Insert.
-/
import Derived.Test.YtpakjmiallhgnaaWDel
import Derived.Test.YtpakjmiallhgnaaWJoin
import Derived.Lib.AppendZeros
import Derived.Lib.AppendZerosOnto
import Derived.Lib.Overlaps
import Derived.Laws.Externs
import Derived.Laws.NewBlocks
namespace Go.Proofs.Ytpakjmiallhgnaa
set_option linter.unusedVariables false
set_option linter.unusedSimpArgs false
open Go.RowKit

/-- copy between two slices whose elements are of some cells: all is read before anything is written. -/
theorem run_copy_wide {P : Program} (w : World) (dT sT ty elem : TypeId) (b o dLen dCap : Nat) (a : Addr) (sLen sCap sz : Nat) (cs : List Value)
    (hu : P.underlying dT = some (.slice elem)) (hs : (P.info? elem).map (·.size) = some sz) (hn : cs.length = Nat.min sLen dLen * sz)
    (hsrc : ∀ j v, cs[j]? = some v → w.cell? (a.add j) = some v) (hc : ∀ j, j < cs.length → (w.cell? ⟨b, o + j, none⟩).isSome = true) (hf : ∀ j, j < cs.length → w.frozen? ⟨b, o + j, none⟩ = false) (h1 : ∀ v ∈ cs, v.oneCell' = true) :
    (Builtin.copy_ #[dT, sT] ty #[.slice (some ⟨b, o, none⟩) dLen dCap, .slice (some a) sLen sCap]).run P w = .ok (goInt (Nat.min sLen dLen)) (w.setCells b o cs) := by
  have hl := run_loadCells_list (P := P) w a cs hsrc
  have hst := run_storeCells_cells (P := P) b o cs 0 w (by simpa using hc) (by simpa using hf) h1
  rw [hn] at hl
  cases hq : P.info? elem with
  | none => simp [hq] at hs
  | some i =>
    have hi : i.size = sz := by simpa [hq] using hs
    simp [Builtin.copy_, run_underlying hu, Builtin.lenOf, Builtin.firstCells, sizeOf, typeInfo, hq, hi, hl, hst]
theorem wpList_copy_at {P : Program} (w : World) {ops : Array Oper} {rest : List Oper} {o : Oper} {a : Act} {Q : Exit → Act → World → Prop} (hgd : o.guard = none) (d s : Operand) (t t' : TypeId)
    (ho : o.op = .call { callee := .builtin .copy, args := #[d, s], argTypes := #[t, t'] }) (v u : Value) (hd : a.eval d = v) (hs : a.eval s = u) {v' : Value} {w' : World}
    (hr : (Builtin.copy_ #[t, t'] o.type #[v, u]).run P w = .ok v' w') (h : wpList P ops Q rest (a.put o.dst v') w') : wpList P ops Q (o :: rest) a w :=
  wpList_plain hgd fun _ hK => by
    unfold Oper.wp execOp
    simp only [ho, resolve, invoke, builtin, Sem.run_bind, Sem.run_pure, Result.andThen_ok, List.map_toArray, List.map_cons, List.map_nil, hd, hs, hr]
    exact hK _ _ h
theorem step_copy_at {P : Program} {ops : Array Oper} {o : Oper} {a : Act} {w : World} {K : Act → World → Prop} {Q : Exit → Act → World → Prop} {E : Prop}
    (hg : o.guard = none) (d x : Operand) (dT sT : TypeId) (hop : o.op = Op.call { callee := Callee.builtin Builtin.copy, args := #[d, x], argTypes := #[dT, sT] })
    (v u : Value) (hd : a.eval d = v) (hx : a.eval x = u) {v' : Value} {w' : World} (hr : (Builtin.copy_ #[dT, sT] o.type #[v, u]).run P w = .ok v' w') (hK : K (a.put o.dst v') w') :
    if Region.wanted o (yielded ops a.tmps) = true then Oper.wp P o a w K Q else E := by
  have hw : Region.wanted o (yielded ops a.tmps) = true := by simp [Region.wanted, hg]
  rw [if_pos hw]
  unfold Oper.wp
  simp [execOp, hop, resolve, invoke, builtin, hd, hx, hr, Result.andThen]
  exact hK
section
variable {w w' : World} {lo hi E sz n m K cap g : Nat} {cc : Nat → Value}
theorem OwnL.ext1 (h : OwnL w lo hi E sz (.slice (some ⟨g, 0, none⟩) n cap) n K cc) (hn : 0 < n) (hc : n + 1 ≤ cap) : ∃ cc', OwnL w lo hi E sz (.slice (some ⟨g, 0, none⟩) (n + 1) cap) (n + 1) ((n + 1) * sz) cc' ∧ ∀ o, o < K → o < n * sz → cc' o = cc o := by
  rcases h with ⟨h0, _⟩ | ⟨g', cap', xs, h0, a1, a2, a3, ⟨hl, a4⟩, a5⟩
  · omega
  · injection h0 with e1 e2 e3
    injection e1 with e1
    injection e1 with e1
    subst e1 e3
    rcases a4 with ⟨a4, _⟩ | ⟨x, y, cur, he, hb, hh, hnc, hcm, hcs, ht⟩
    · cases a4
    · injection he with e1 _ e3
      injection e1 with e1
      injection e1 with e1
      subst e1 e3
      have hle : (n + 1) * sz ≤ cap * sz := Nat.mul_le_mul_right sz hc
      have hns : n * sz ≤ (n + 1) * sz := Nat.mul_le_mul_right sz (Nat.le_succ n)
      have hlen : (cur.toList.take ((n + 1) * sz)).length = (n + 1) * sz := by rw [List.length_take, Array.length_toList, hcs]; omega
      refine ⟨fun o => (cur.toList.take ((n + 1) * sz)).getD o (.bool false), .inr ⟨g, cap, cur.toList.take ((n + 1) * sz), rfl, a1, a2, hc, ⟨hlen, .inr ⟨g, cap, cur, rfl, hb, hh, hc, hcm, hcs, rfl⟩⟩, fun o ho _ => ?_⟩, fun o ho ho' => ?_⟩
      · simp [List.getD, List.getElem?_eq_getElem (show o < (cur.toList.take ((n + 1) * sz)).length by omega)]
      · have h1 := a5 o ho ho'
        rw [← ht, List.getElem?_take, if_pos ho'] at h1
        show (cur.toList.take ((n + 1) * sz)).getD o (.bool false) = cc o
        rw [List.getD, List.getElem?_take, if_pos (by omega), h1]
        rfl
end
def insC (k : Nat) (c : Nat → Nat → Value) (x : Nat → Value) (i j : Nat) : Value := if i < k then c i j else if i = k then x j else c (i - 1) j
/-- The cells behind the two copies. -/
theorem OwnL.shifted {w W1 W2 : World} {γ E k d cap : Nat} {cc : Nat → Value} {c : Nat → Nat → Value} {x : Nat → Value} (h : OwnL w γ (γ + 1) E 4 (.slice (some ⟨γ, 0, none⟩) (k + d + 2) cap) (k + d + 2) ((k + d + 2) * 4) cc)
    (hcc : ∀ o, o < k * 4 → cc o = c (o / 4) (o % 4)) (s : List Value) (hs : s.length = (d + 1) * 4) (hsc : ∀ i j, i < d + 1 → j < 4 → s[i * 4 + j]? = some (c (k + i) j))
    (hW1 : W1 = w.setCells γ ((k + 1) * 4) s) (hW2 : W2 = W1.setCells γ (k * 4) [x 0, x 1, x 2, x 3]) :
    OwnL W2 γ (γ + 1) E 4 (.slice (some ⟨γ, 0, none⟩) (k + d + 2) cap) (k + d + 2) ((k + d + 2) * 4) (fun o => insC k c x (o / 4) (o % 4)) := by
  have a1 := h.setCells (vs := s) (o := (k + 1) * 4) (by omega)
  rw [← hW1] at a1
  have a2 := a1.setCells (vs := [x 0, x 1, x 2, x 3]) (o := k * 4) (by simp; omega)
  rw [← hW2] at a2
  refine a2.congr fun o ho => ?_
  obtain ⟨i, j, hj, rfl⟩ : ∃ i j, j < 4 ∧ o = i * 4 + j := ⟨o / 4, o % 4, by omega, by omega⟩
  have e1 : (i * 4 + j) / 4 = i := by omega
  have e2 : (i * 4 + j) % 4 = j := by omega
  simp only [List.length_cons, List.length_nil]
  rw [e1, e2]
  unfold insC
  rcases Nat.lt_trichotomy i k with hik | hik | hik
  · rw [if_neg (by omega), if_neg (by omega), if_pos hik, hcc _ (by omega), e1, e2]
  · subst hik
    rw [if_pos (by omega), if_neg (by omega), if_pos rfl, Nat.add_sub_cancel_left]
    match j, hj with
    | 0, _ => rfl
    | 1, _ => rfl
    | 2, _ => rfl
    | 3, _ => rfl
  · rw [if_neg (by omega), if_pos (by omega), if_neg (by omega), if_neg (by omega), show i * 4 + j - (k + 1) * 4 = (i - (k + 1)) * 4 + j by omega, List.getD, hsc _ _ (by omega) hj, show k + (i - (k + 1)) = i - 1 by omega]
    rfl

end Go.Proofs.Ytpakjmiallhgnaa
