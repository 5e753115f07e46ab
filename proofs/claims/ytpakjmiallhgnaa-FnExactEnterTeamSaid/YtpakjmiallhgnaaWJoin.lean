/-
  Words for boards that are joined: an append of one row of the call's own onto another.
-/
import Derived.Test.YtpakjmiallhgnaaWCopy2
namespace Go.Proofs.Ytpakjmiallhgnaa
set_option linter.unusedVariables false
set_option linter.unusedSimpArgs false
open Go.RowKit

theorem run_append_rows {P : Program} (w : World) (base base2 : Nat) (t ty e : TypeId) (i : TypeInfo) (z : Value) (size bytes : Nat) (ht : P.underlying t = some (.slice e)) (hi : P.info? e = some i) (hz : i.zero = some z)
    (hsize : i.size = size) (hby : i.bytes = bytes) (hzs : z.cells.size = size) (hsz : 0 < size)
    (v u : Value) (n m : Nat) (xs ys : List Value) (hown : w.ownsRow base e size v n xs) (hown2 : w.ownsRow base2 e size u m ys) (h1 : ∀ u ∈ ys, u.oneCell' = true)
    (h63 : n + m ≤ maxLen) (hbytes : (n + m) * bytes ≤ 140737488355328) (hbase : base ≤ w.heap.size) :
    ∃ v' w', (Builtin.append_ #[t, t] ty #[v, u]).run P w = .ok v' w' ∧ w'.ownsRow base e size v' (n + m) (xs ++ ys) ∧ w.grownBy w' v.ownBlock := by
  rcases hown2.2 with ⟨rfl, rfl⟩ | ⟨g, cap, cur, rfl, hbg, hg, hnc, hcm, hcs, htake⟩
  · have hy : ys = [] := List.eq_nil_of_length_eq_zero (by simpa using hown2.1)
    subst hy
    refine ⟨v, w, ?_, by simpa using hown, ⟨rfl, rfl, rfl, Nat.le_refl _, fun _ _ _ => rfl⟩⟩
    rcases hown.2 with ⟨rfl, rfl⟩ | ⟨g, cap, cur, rfl, hbg, hg, hnc, hcm, hcs, htake⟩
    · simp [Builtin.append_, run_underlying ht, sizeOf, typeInfo, hi, Builtin.lenOf, Builtin.firstCells, loadCells, loadCellsFrom]
    · simp [Builtin.append_, run_underlying ht, sizeOf, typeInfo, hi, Builtin.lenOf, Builtin.firstCells, loadCells, loadCellsFrom, storeCells, hnc]
  · obtain ⟨v', w', r1, r2, r3, _⟩ := run_append_own (P := P) w base t ty e i z size bytes ht hi hz hsize hby hzs hsz v n xs hown ⟨g, 0, none⟩ m cap ys hown2.1 (hown2.cells rfl) h1 h63 hbytes hbase
    exact ⟨v', w', r1, r2, r3⟩
section
variable {w w' : World} {lo lo2 k d : Nat} {β β' : Nat → Nat} {ck ck' : Nat → Value} {T T' : Nat → Tm}
theorem Subs.app (h : Subs w lo β ck T k) (h' : Subs w lo2 β' ck' T' d) (hl : lo ≤ lo2) (hz : ∀ i, i < k → β i < lo2) :
    Subs w lo (fun i => if i < k then β i else β' (i - k)) (fun i => if i < k then ck i else ck' (i - k)) (fun i => if i < k then T i else T' (i - k)) (k + d) := by
  refine ⟨fun i hi => ?_, fun i j hi hj hij => ?_⟩
  · by_cases h1 : i < k
    · simp only [h1, if_true]
      exact h.1 i h1
    · simp only [h1, if_false]
      obtain ⟨a, b, c⟩ := h'.1 (i - k) (by omega)
      exact ⟨a, by omega, c⟩
  · by_cases h1 : i < k <;> by_cases h2 : j < k
    · simp only [h1, h2, if_true]
      exact h.2 i j h1 h2 hij
    · simp only [h1, h2, if_true, if_false]
      have := hz i h1
      have := (h'.1 (j - k) (by omega)).2.1
      omega
    · simp only [h1, h2, if_true, if_false]
      have := hz j h2
      have := (h'.1 (i - k) (by omega)).2.1
      omega
    · simp only [h1, h2, if_false]
      exact h'.2 _ _ (by omega) (by omega) (by omega)
theorem Subs.congr {n : Nat} (h : Subs w lo β ck T n) (hT : ∀ i, i < n → T i = T' i) : Subs w lo β ck T' n := ⟨fun i hi => hT i hi ▸ h.1 i hi, h.2⟩
theorem rowL_join (T T' : Nat → Tm) (ck ck' : Nat → Value) (k d : Nat) :
    rowL (tC T ck) 4 k ++ rowL (tC T' ck') 4 d = rowL (tC (fun i => if i < k then T i else T' (i - k)) (fun i => if i < k then ck i else ck' (i - k))) 4 (k + d) := by
  rw [rowL_app]
  refine rowL_congr fun i j _ _ => ?_
  by_cases h : i < k
  · simp only [h, if_true, tC]
  · simp only [h, if_false, tC]
theorem row_one {T : Nat → Tm} {ck : Nat → Value} {n : Nat} (hc : ∀ i, i < n → (ck i).oneCell' = true) {u : Value} (h : u ∈ rowL (tC T ck) 4 n) : u.oneCell' = true := by
  obtain ⟨i, j, hi, hj, rfl⟩ := rowL_mem h
  match j, hj with
  | 0, _ => rfl
  | 1, _ => rfl
  | 2, _ => rfl
  | 3, _ => exact hc i hi
theorem Subs.one {n : Nat} (h : Subs w lo β ck T n) : ∀ i, i < n → (ck i).oneCell' = true := fun i hi => by
  obtain ⟨_, _, e, _⟩ := (h.1 i hi).1.open_
  rw [e]; rfl
/-- What an append onto the outer row leaves of the inner ones. -/
theorem Subs.grown {v : Value} {xs : List Value} {lo' n : Nat} (h : Subs w lo β ck T k) (hn : ∀ i, i < k → 0 < (T i).n) (ho : w.ownsRow lo' 40 4 v n xs) (hg : w.grownBy w' v.ownBlock) : Subs w' lo β ck T k :=
  h.keepB hg.size fun i hi => hg.block _ (h.1 i hi).2.2 fun e => by
    have key : ∀ g, v.ownBlock = some g → β i ≠ g := fun g hgg e2 => by
      obtain ⟨a, _, _⟩ := h.1 i hi
      rcases a with ⟨h0, _⟩ | ⟨g1, cap, ys, h0, h1, h2, h3, ⟨_, h4⟩, _⟩
      · have := hn i hi; omega
      obtain rfl : g1 = β i := by omega
      rcases h4 with ⟨h4, _⟩ | ⟨x, _, cur, he, _, hh, _⟩
      · rw [h0] at h4; cases h4
      rw [h0] at he
      injection he with e1 _ _
      injection e1 with e1
      injection e1 with e1
      rcases ho.2 with ⟨h5, _⟩ | ⟨y, _, cur', he', _, hh', _⟩
      · rw [h5] at hgg; cases hgg
      rw [he'] at hgg
      injection hgg with hgg
      have hgg : y = g := hgg
      rw [← e1] at hh
      rw [hgg, ← e2] at hh'
      rw [hh] at hh'
      injection hh' with hh'
      injection hh' with _ e3 _
      exact absurd e3 (by decide)
    exact key _ e.symm rfl
end

end Go.Proofs.Ytpakjmiallhgnaa
