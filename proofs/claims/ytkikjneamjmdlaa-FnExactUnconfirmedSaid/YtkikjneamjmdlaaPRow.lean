/-
  Rows of the call's own, element by element; an append that tells where the row lies behind it.
-/
import Derived.Test.YtkikjneamjmdlaaPFlt
import Derived.Test.YtkikjneamjmdlaaMarks
import Derived.ArgAppend
import Derived.Deep.DeepAppendRoom
namespace Go.Proofs.Ytkikjneamjmdlaa
set_option linter.unusedVariables false
set_option linter.unusedSimpArgs false
open Go.RowKit

/-- The cells of the first k elements, in a row. -/
def rowL (c : Nat → Nat → Value) (sz : Nat) : Nat → List Value
  | 0 => []
  | k + 1 => rowL c sz k ++ (List.range sz).map (c k)
theorem rowL_len (c : Nat → Nat → Value) (sz : Nat) : ∀ k, (rowL c sz k).length = k * sz
  | 0 => by simp [rowL]
  | k + 1 => by simp [rowL, rowL_len c sz k, Nat.succ_mul]
theorem rowL_get (c : Nat → Nat → Value) (sz : Nat) : ∀ {k i j : Nat}, i < k → j < sz → (rowL c sz k)[i * sz + j]? = some (c i j)
  | k + 1, i, j, hi, hj => by
    have hl := rowL_len c sz k
    rcases Nat.lt_or_ge i k with h | h
    · have := lin_lt h hj
      rw [rowL, List.getElem?_append_left (by omega)]
      exact rowL_get c sz h hj
    · obtain rfl : i = k := by omega
      rw [rowL, List.getElem?_append_right (by omega), hl, Nat.add_sub_cancel_left, List.getElem?_map, List.getElem?_range hj]
      rfl
theorem rowL_congr {c c' : Nat → Nat → Value} {sz : Nat} : ∀ {k : Nat}, (∀ i j, i < k → j < sz → c i j = c' i j) → rowL c sz k = rowL c' sz k
  | 0, _ => rfl
  | k + 1, h => by
    rw [rowL, rowL, rowL_congr (fun i j hi hj => h i j (by omega) hj)]
    congr 1
    apply List.map_congr_left
    intro j hj
    exact h k j (by omega) (List.mem_range.1 hj)
theorem rowL_mem {c : Nat → Nat → Value} {sz k : Nat} {u : Value} (h : u ∈ rowL c sz k) : ∃ i j, i < k ∧ j < sz ∧ u = c i j := by
  induction k with
  | zero => simp [rowL] at h
  | succ k ih =>
    rw [rowL, List.mem_append] at h
    rcases h with h | h
    · obtain ⟨i, j, h1, h2, h3⟩ := ih h
      exact ⟨i, j, by omega, h2, h3⟩
    · obtain ⟨j, hj, rfl⟩ := List.mem_map.1 h
      exact ⟨k, j, by omega, List.mem_range.1 hj, rfl⟩
/-- Two rows behind each other. -/
theorem rowL_app (c d : Nat → Nat → Value) (sz n : Nat) : ∀ m, rowL c sz n ++ rowL d sz m = rowL (fun i j => if i < n then c i j else d (i - n) j) sz (n + m)
  | 0 => by
    rw [rowL, List.append_nil, Nat.add_zero]
    exact rowL_congr fun i j hi _ => by simp [hi]
  | m + 1 => by
    rw [rowL, ← List.append_assoc, rowL_app c d sz n m, show n + (m + 1) = n + m + 1 by omega, rowL]
    congr 1
    apply List.map_congr_left
    intro j _
    have : ¬ n + m < n := by omega
    simp [this]
section
variable {w w' : World} {lo hi E sz n k : Nat} {v : Value} {c : Nat → Nat → Value}
theorem own_row (h : w.ownsRow lo E sz v n (rowL c sz n)) : Own w lo w.heap.size E sz v n n c := ⟨_, h, fun g hg => (h.lt g hg).2, fun i j hi hj => rowL_get c sz hi hj⟩
theorem Own.row (h : Own w lo hi E sz v n n c) : w.ownsRow lo E sz v n (rowL c sz n) := by
  obtain ⟨xs, h1, h2, h3⟩ := h
  have : xs = rowL c sz n := by
    apply List.ext_getElem?
    intro o
    rcases Nat.lt_or_ge o (n * sz) with ho | ho
    · have hsz : 0 < sz := by
        rcases Nat.eq_zero_or_pos sz with h0 | h0
        · subst h0; omega
        · exact h0
      have a1 : o / sz < n := (Nat.div_lt_iff_lt_mul hsz).2 ho
      have a2 := Nat.mod_lt o hsz
      have e1 := h3 _ _ a1 a2
      have e2 := rowL_get c sz a1 a2
      rw [Nat.div_add_mod'] at e1 e2
      rw [e1, e2]
    · rw [List.getElem?_eq_none (by rw [h1.1]; omega), List.getElem?_eq_none (by rw [rowL_len]; omega)]
  rw [← this]
  exact h1
theorem Sl.news {blk off cap : Nat} (h : Sl w lo hi sz (.slice (some ⟨blk, off, none⟩) n cap) n c) : ∀ j u, (rowL c sz n)[j]? = some u → w.cell? ((⟨blk, off, none⟩ : Addr).add j) = some u := by
  intro o u hu
  obtain ⟨A, cap', he, _, hA⟩ := h
  injection he with e1 _ _
  subst e1
  have ho : o < n * sz := by
    have := (List.getElem?_eq_some_iff.1 hu).1
    rwa [rowL_len] at this
  have hsz : 0 < sz := by
    rcases Nat.eq_zero_or_pos sz with h0 | h0
    · subst h0; omega
    · exact h0
  have a1 : o / sz < n := (Nat.div_lt_iff_lt_mul hsz).2 ho
  have a2 := Nat.mod_lt o hsz
  obtain ⟨b, f, e, _, _, hc⟩ := hA (Nat.lt_of_le_of_lt (Nat.zero_le _) a1)
  injection e with e
  injection e with e1 e2
  subst e1 e2
  have e3 := rowL_get c sz a1 a2
  rw [Nat.div_add_mod'] at e3
  rw [hu] at e3
  have e4 := hc _ _ a1 a2
  rw [Nat.add_assoc, Nat.div_add_mod'] at e4
  rw [Addr.add_lit, e4, e3]
/-- Rows whose elements are of two types lie in two blocks. -/
theorem OwnL.apart {a b E' sz' n' K K' : Nat} {u : Value} {cc cc' : Nat → Value} (h : OwnL w a (a + 1) E sz v n K cc) (h' : OwnL w b (b + 1) E' sz' u n' K' cc') (hn : 0 < n) (hn' : 0 < n') (hE : E ≠ E') : a ≠ b := by
  rcases h with ⟨h0, _⟩ | ⟨g, cap, xs, rfl, h1, h2, h3, ⟨_, h4⟩, _⟩
  · omega
  rcases h' with ⟨h0, _⟩ | ⟨g', cap', xs', rfl, h1', h2', h3', ⟨_, h4'⟩, _⟩
  · omega
  obtain rfl : g = a := by omega
  obtain rfl : g' = b := by omega
  rcases h4 with ⟨h4, _⟩ | ⟨x, _, cur, he, _, hh, _⟩
  · cases h4
  rcases h4' with ⟨h4', _⟩ | ⟨x', _, cur', he', _, hh', _⟩
  · cases h4'
  injection he with e1 _ _
  injection e1 with e1
  injection e1 with e1
  injection he' with e2 _ _
  injection e2 with e2
  injection e2 with e2
  subst e1 e2
  intro e
  subst e
  rw [hh] at hh'
  injection hh' with hh'
  injection hh' with _ e3 _
  exact hE e3
end
/-- An append onto a row of the call's own: in its own block, or in a new one. -/
theorem wpList_append_two {P : Program} (w : World) {ops : Array Oper} {rest : List Oper} {o : Oper} {a : Act} {Q : Exit → Act → World → Prop} (hgd : o.guard = none) (s x : Operand) (t : TypeId)
    (ho : o.op = .call { callee := .builtin .append, args := #[s, x], argTypes := #[t, t] })
    (base : Nat) (e : TypeId) (i : TypeInfo) (z : Value) (size bytes : Nat) (ht : P.underlying t = some (.slice e)) (hi : P.info? e = some i) (hz : i.zero = some z)
    (hsize : i.size = size) (hby : i.bytes = bytes) (hzs : z.cells.size = size) (hsz : 0 < size)
    (v : Value) (n : Nat) (xs : List Value) (hs : a.eval s = v) (hown : w.ownsRow base e size v n xs)
    (ad : Addr) (m c : Nat) (news : List Value) (hx : a.eval x = .slice (some ad) m c) (hl : news.length = m * size) (hnews : ∀ j u, news[j]? = some u → w.cell? (ad.add j) = some u) (h1 : ∀ u ∈ news, u.oneCell' = true) (hm : 0 < m)
    (h63 : n + m ≤ maxLen) (hbytes : (n + m) * bytes ≤ 140737488355328)
    (h : ∀ v' w', ((v'.ownBlock = v.ownBlock ∧ w'.ownsRow base e size v' (n + m) (xs ++ news) ∧ w.grownBy w' v.ownBlock) ∨ (w'.ownsRow w.heap.size e size v' (n + m) (xs ++ news) ∧ w.grownBy w' none)) → wpList P ops Q rest (a.put o.dst v') w') : wpList P ops Q (o :: rest) a w := by
  rcases hown.2 with ⟨rfl, rfl⟩ | ⟨g, cap, cur, rfl, hbg, hg, hnc, hcm, hcs, htake⟩
  · refine wpList_append_grows w hgd s x t ho e i z size bytes ht hi hz hsize hby hzs hsz none 0 0 [] hs (fun _ => ⟨rfl, rfl⟩) (by simp) (fun b hb => by cases hb) ad m c news hx hl hnews h1 (by omega) h63 hbytes ?_
    intro v' w' r1 r2
    have hx0 : xs = [] := List.eq_nil_of_length_eq_zero (by simpa using hown.1)
    subst hx0
    exact h v' w' (.inr ⟨r1, r2⟩)
  · by_cases hroom : n + m ≤ cap
    · refine wpList_append_own_spare w hgd s x t ho base e i size ht hi hsize g n cap xs hs hown ad m c news hx hl hnews h1 hroom ?_
      intro w' r1 r2
      exact h _ w' (.inl ⟨rfl, r1, r2⟩)
    · refine wpList_append_grows w hgd s x t ho e i z size bytes ht hi hz hsize hby hzs hsz (some ⟨g, 0, none⟩) n cap xs hs (fun h => by cases h) hown.1 (fun b hb => by cases hb; exact hown.cells rfl) ad m c news hx hl hnews h1 (by omega) h63 hbytes ?_
      intro v' w' r1 r2
      exact h v' w' (.inr ⟨r1, r2⟩)

end Go.Proofs.Ytkikjneamjmdlaa
