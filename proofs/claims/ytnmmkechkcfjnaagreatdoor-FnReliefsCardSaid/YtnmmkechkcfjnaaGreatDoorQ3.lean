/-
  Texts of this proof, one behind the other (part 3).
-/
import Derived.Test.YtnmmkechkcfjnaaGreatDoorQ2
import Derived.ArgAppend
import Derived.Deep.DeepAppendRoom
/-
  Plain laws on periods: which lists are periods, the reference's way and the program's. No program in sight.-/
namespace Go.Proofs.YtnmmkechkcfjnaaGreatDoor
set_option linter.unusedVariables false
set_option linter.unusedSimpArgs false

def perB (s : ByteArray) (x y : Int) : Bool := nameB s && inB x 0 9999 && inB y 0 9999 && inB (y - x) 1 720
def cmpI (x y : Int) : Int := if x < y then -1 else if y < x then 1 else 0
def cmpP (s : ByteArray) (x : Int) (s' : ByteArray) (x' : Int) : Int := if cmpI x x' ≠ 0 then cmpI x x' else cmpS s s'
def befB (s : ByteArray) (x : Int) (s' : ByteArray) (x' : Int) : Bool := decide (x < x') || (decide (x = x') && ltS s s')
theorem cmpP_neg {s s' : ByteArray} {x x' : Int} : decide (0 ≤ cmpP s x s' x') = !befB s x s' x' := by
  unfold cmpP cmpI befB
  rcases Int.lt_trichotomy x x' with h | h | h
  · simp [h]
  · subst h
    unfold cmpS
    cases ltS s s' with
    | true => simp
    | false => simp; split <;> omega
  · have h1 : ¬ x < x' := by omega
    have h2 : ¬ x = x' := by omega
    simp [h1, h2, h]
/-- The last of n that is so, or -1. -/
def lstI (p : Nat → Bool) : Nat → Int
  | 0 => -1
  | n + 1 => if p n = true then (n : Int) else lstI p n
theorem lstI_cases (p : Nat → Bool) (n : Nat) : (lstI p n = -1 ∧ ∀ j, j < n → p j = false) ∨ ∃ k, k < n ∧ lstI p n = k ∧ p k = true ∧ ∀ j, k < j → j < n → p j = false := by
  induction n with
  | zero => exact .inl ⟨rfl, fun j hj => by omega⟩
  | succ n ih =>
    unfold lstI
    split
    · rename_i h
      exact .inr ⟨n, by omega, rfl, h, fun j h1 h2 => by omega⟩
    · rename_i h
      have h' : p n = false := by simpa using h
      rcases ih with ⟨h1, h2⟩ | ⟨k, h1, h2, h3, h4⟩
      · refine .inl ⟨h1, fun j hj => ?_⟩
        rcases Nat.lt_or_ge j n with h5 | h5
        · exact h2 j h5
        · obtain rfl : j = n := by omega
          exact h'
      · refine .inr ⟨k, by omega, h2, h3, fun j h5 h6 => ?_⟩
        rcases Nat.lt_or_ge j n with h7 | h7
        · exact h4 j h5 h7
        · obtain rfl : j = n := by omega
          exact h'
theorem lstI_at {p : Nat → Bool} {n k : Nat} (hk : k < n) (h : p k = true) (hj : ∀ j, k < j → j < n → p j = false) : lstI p n = k := by
  rcases lstI_cases p n with ⟨_, h2⟩ | ⟨k', h1, h2, h3, h4⟩
  · rw [h2 k hk] at h; cases h
  · rcases Nat.lt_trichotomy k k' with h5 | h5 | h5
    · rw [hj k' h5 h1] at h3; cases h3
    · rw [h2, h5]
    · rw [h4 k h5 hk] at h; cases h
theorem lstI_none {p : Nat → Bool} {n : Nat} (hj : ∀ j, j < n → p j = false) : lstI p n = -1 := by
  rcases lstI_cases p n with ⟨h1, _⟩ | ⟨k, h1, _, h3, _⟩
  · exact h1
  · rw [hj k h1] at h3; cases h3
theorem lstI_bd (p : Nat → Bool) (n : Nat) : -1 ≤ lstI p n ∧ lstI p n < n := by
  rcases lstI_cases p n with ⟨h1, _⟩ | ⟨k, h1, h2, _, _⟩ <;> omega

section
variable (c : Nat → ByteArray) (a b : Nat → Int)
def crewI (s : ByteArray) (j : Nat) : Bool := decide (c j = s)
def ordI (i : Nat) : Bool := decide (i = 0) || befB (c (i - 1)) (a (i - 1)) (c i) (a i)
def clash (i j : Nat) : Bool := decide (c j = c i) && decide (a i < b j)
/-- The reference's test at i; the program's. -/
def prS (i : Nat) : Bool := perB (c i) (a i) (b i) && ordI c a i && allB (fun j => !clash c a b i j) i
def befI (i : Nat) : Int := lstI (crewI c (c i)) i
def prP (i : Nat) : Bool := perB (c i) (a i) (b i) && ordI c a i && !(decide (0 ≤ befI c i) && decide (a i < b (befI c i).toNat))
def pdB (n : Nat) : Bool := allB (prS c a b) n && decide ((n : Int) ≤ 12)
end
section
variable {c : Nat → ByteArray} {a b : Nat → Int}
theorem perB_iff {s : ByteArray} {x y : Int} : perB s x y = true ↔ nameB s = true ∧ (0 ≤ x ∧ x ≤ 9999) ∧ (0 ≤ y ∧ y ≤ 9999) ∧ 1 ≤ y - x ∧ y - x ≤ 720 := by
  simp only [perB, Bool.and_eq_true, inB_iff, and_assoc]
theorem prS_iff {i : Nat} : prS c a b i = true ↔ perB (c i) (a i) (b i) = true ∧ ordI c a i = true ∧ ∀ j, j < i → c j = c i → b j ≤ a i := by
  simp only [prS, Bool.and_eq_true, allB_iff, clash, Bool.not_eq_true', Bool.and_eq_false_iff, decide_eq_false_iff_not, and_assoc]
  refine and_congr_right fun _ => and_congr_right fun _ => forall_congr' fun j => forall_congr' fun _ => ⟨fun h e => ?_, fun h => ?_⟩
  · rcases h with h | h
    · exact absurd e h
    · omega
  · by_cases e : c j = c i
    · right; have := h e; omega
    · exact .inl e
theorem prP_eq {n : Nat} (h : ∀ i, i < n → prS c a b i = true) : prP c a b n = prS c a b n := by
  unfold prP prS
  congr 1
  unfold befI
  rcases lstI_cases (crewI c (c n)) n with ⟨h1, h2⟩ | ⟨k, h1, h2, h3, h4⟩
  · rw [h1]
    have : allB (fun j => !clash c a b n j) n = true := allB_iff.2 fun j hj => by
      have := h2 j hj
      simp only [crewI, decide_eq_false_iff_not] at this
      simp [clash, this]
    rw [this]
    rfl
  · rw [h2]
    have hk : c k = c n := of_decide_eq_true h3
    have h0 : decide ((0 : Int) ≤ (k : Int)) = true := by simp
    rw [h0, Bool.true_and, Int.toNat_natCast]
    cases hd : decide (a n < b k) with
    | true =>
      rw [allB_false h1 (by simp [clash, hk, hd])]
      rfl
    | false =>
      have hd' := of_decide_eq_false hd
      rw [allB_iff.2]
      · rfl
      · intro j hj
        simp only [clash, Bool.not_eq_true', Bool.and_eq_false_iff, decide_eq_false_iff_not]
        by_cases e : c j = c n
        · right
          rcases Nat.lt_trichotomy j k with h5 | h5 | h5
          · have h6 := (prS_iff.1 (h k h1)).2.2 j h5 (e.trans hk.symm)
            have h7 := (perB_iff.1 (prS_iff.1 (h k h1)).1).2.2.2
            omega
          · subst h5; omega
          · have := h4 j h5 hj
            simp [crewI, e] at this
        · exact .inl e
theorem prs_eq (n : Nat) : allB (prP c a b) n = allB (prS c a b) n := by
  induction n with
  | zero => rfl
  | succ n ih =>
    simp only [allB, ih]
    cases h : allB (prS c a b) n with
    | false => rfl
    | true => rw [prP_eq (allB_iff.1 h)]
/-- What periods keep. -/
theorem pd_facts {n : Nat} (h : pdB c a b n = true) : n ≤ 12 ∧ ∀ i, i < n → perB (c i) (a i) (b i) = true ∧ ordI c a i = true ∧ ∀ j, j < i → c j = c i → b j ≤ a i := by
  simp only [pdB, Bool.and_eq_true, allB_iff, decide_eq_true_eq] at h
  exact ⟨by omega, fun i hi => prS_iff.1 (h.1 i hi)⟩
end

end Go.Proofs.YtnmmkechkcfjnaaGreatDoor

/-
  Lists of the places that pass a test; rows of the call's own that hold them.-/
namespace Go.Proofs.YtnmmkechkcfjnaaGreatDoor
set_option linter.unusedVariables false
set_option linter.unusedSimpArgs false
open Go.RowKit

/-- The first n that are so. -/
def flt (p : Nat → Bool) : Nat → List Nat
  | 0 => []
  | k + 1 => flt p k ++ if p k = true then [k] else []
theorem flt_len (p : Nat → Bool) : ∀ n, (flt p n).length ≤ n
  | 0 => by simp [flt]
  | k + 1 => by
    have := flt_len p k
    rw [flt, List.length_append]
    split <;> simp <;> omega
theorem flt_yes {p : Nat → Bool} {k : Nat} (h : p k = true) : flt p (k + 1) = flt p k ++ [k] := by rw [flt, if_pos h]
theorem flt_no {p : Nat → Bool} {k : Nat} (h : p k = false) : flt p (k + 1) = flt p k := by rw [flt, h]; simp
def fltV (p : Nat → Bool) (n : Nat) : List Value := (flt p n).map fun (i : Nat) => .int .i64 (i : Int)
def fltI (p : Nat → Bool) (n : Nat) (i : Nat) : Int := ((flt p n).getD i 0 : Nat)
theorem fltV_len (p : Nat → Bool) (n : Nat) : (fltV p n).length = (flt p n).length := by simp [fltV]
/-- A row that holds them. -/
theorem own_flt {w : World} {lo E : Nat} {v : Value} {p : Nat → Bool} {n : Nat} (h : w.ownsRow lo E 1 v (flt p n).length (fltV p n)) : Own w lo w.heap.size E 1 v (flt p n).length (flt p n).length (iC (fltI p n)) := by
  refine ⟨_, h, fun g hg => (h.lt g hg).2, fun i j hi hj => ?_⟩
  obtain rfl : j = 0 := by omega
  simp only [fltV, iC, fltI, Nat.mul_one, Nat.add_zero, List.getElem?_map]
  rw [List.getElem?_eq_getElem hi]
  simp [List.getD, List.getElem?_eq_getElem hi]
theorem row_below {w w' : World} {lo E sz n B : Nat} {v : Value} {xs : List Value} (h : w.ownsRow lo E sz v n xs) (hb : Below B w w') (hB : w.heap.size ≤ B) : w'.ownsRow lo E sz v n xs := by
  obtain ⟨hl, h1⟩ := id h
  refine ⟨hl, ?_⟩
  rcases h1 with h1 | ⟨g, cap, cur, rfl, hg, hh, r⟩
  · exact .inl h1
  · exact .inr ⟨g, cap, cur, rfl, hg, by rw [hb.block g (Nat.lt_of_lt_of_le (h.lt g rfl).2 hB)]; exact hh, r⟩
theorem row_form {w : World} {lo E sz n : Nat} {v : Value} {xs : List Value} (h : w.ownsRow lo E sz v n xs) : ∃ A cap, v = .slice A n cap := by
  rcases h.2 with ⟨h1, h2⟩ | ⟨g, cap, cur, h1, _⟩
  · exact ⟨none, 0, by rw [h1, h2]⟩
  · exact ⟨_, cap, h1⟩
/-- The texts of those places. -/
def fltT (f : Nat → ByteArray) (p : Nat → Bool) (n : Nat) : List Value := (flt p n).map fun (i : Nat) => .string (f i)
def fltS (f : Nat → ByteArray) (p : Nat → Bool) (n : Nat) (i : Nat) : ByteArray := f ((flt p n).getD i 0)
theorem own_fltS {w : World} {lo E : Nat} {v : Value} {f : Nat → ByteArray} {p : Nat → Bool} {n : Nat} (h : w.ownsRow lo E 1 v (flt p n).length (fltT f p n)) : Own w lo w.heap.size E 1 v (flt p n).length (flt p n).length (sC (fltS f p n)) := by
  refine ⟨_, h, fun g hg => (h.lt g hg).2, fun i j hi hj => ?_⟩
  obtain rfl : j = 0 := by omega
  simp only [fltT, sC, fltS, Nat.mul_one, Nat.add_zero, List.getElem?_map]
  rw [List.getElem?_eq_getElem hi]
  simp [List.getD, List.getElem?_eq_getElem hi]

end Go.Proofs.YtnmmkechkcfjnaaGreatDoor

/-
  Rows of the call's own, element by element; an append that tells where the row lies behind it.-/
namespace Go.Proofs.YtnmmkechkcfjnaaGreatDoor
set_option linter.unusedVariables false
set_option linter.unusedSimpArgs false
open Go.RowKit

/-- The cells of the first k elements, in a row. -/
def rowL (c : Nat → Nat → Value) (sz : Nat) : Nat → List Value
  | 0 => []
  | k + 1 => rowL c sz k ++ (List.range sz).map (c k)
theorem rowL_len (c : Nat → Nat → Value) (sz : Nat) : ∀ k, (rowL c sz k).length = k * sz
  | 0 => by simp [rowL]
  | k + 1 => by simp [rowL, rowL_len c sz k, Nat.succ_mul]
theorem rowL_get (c : Nat → Nat → Value) (sz : Nat) : ∀ {k i j : Nat}, i < k → j < sz → (rowL c sz k)[i * sz + j]? = some (c i j)
  | k + 1, i, j, hi, hj => by
    have hl := rowL_len c sz k
    rcases Nat.lt_or_ge i k with h | h
    · have := lin_lt h hj
      rw [rowL, List.getElem?_append_left (by omega)]
      exact rowL_get c sz h hj
    · obtain rfl : i = k := by omega
      rw [rowL, List.getElem?_append_right (by omega), hl, Nat.add_sub_cancel_left, List.getElem?_map, List.getElem?_range hj]
      rfl
theorem rowL_congr {c c' : Nat → Nat → Value} {sz : Nat} : ∀ {k : Nat}, (∀ i j, i < k → j < sz → c i j = c' i j) → rowL c sz k = rowL c' sz k
  | 0, _ => rfl
  | k + 1, h => by
    rw [rowL, rowL, rowL_congr (fun i j hi hj => h i j (by omega) hj)]
    congr 1
    apply List.map_congr_left
    intro j hj
    exact h k j (by omega) (List.mem_range.1 hj)
theorem rowL_mem {c : Nat → Nat → Value} {sz k : Nat} {u : Value} (h : u ∈ rowL c sz k) : ∃ i j, i < k ∧ j < sz ∧ u = c i j := by
  induction k with
  | zero => simp [rowL] at h
  | succ k ih =>
    rw [rowL, List.mem_append] at h
    rcases h with h | h
    · obtain ⟨i, j, h1, h2, h3⟩ := ih h
      exact ⟨i, j, by omega, h2, h3⟩
    · obtain ⟨j, hj, rfl⟩ := List.mem_map.1 h
      exact ⟨k, j, by omega, List.mem_range.1 hj, rfl⟩
/-- Two rows behind each other. -/
theorem rowL_app (c d : Nat → Nat → Value) (sz n : Nat) : ∀ m, rowL c sz n ++ rowL d sz m = rowL (fun i j => if i < n then c i j else d (i - n) j) sz (n + m)
  | 0 => by
    rw [rowL, List.append_nil, Nat.add_zero]
    exact rowL_congr fun i j hi _ => by simp [hi]
  | m + 1 => by
    rw [rowL, ← List.append_assoc, rowL_app c d sz n m, show n + (m + 1) = n + m + 1 by omega, rowL]
    congr 1
    apply List.map_congr_left
    intro j _
    have : ¬ n + m < n := by omega
    simp [this]
section
variable {w w' : World} {lo hi E sz n k : Nat} {v : Value} {c : Nat → Nat → Value}
theorem own_row (h : w.ownsRow lo E sz v n (rowL c sz n)) : Own w lo w.heap.size E sz v n n c := ⟨_, h, fun g hg => (h.lt g hg).2, fun i j hi hj => rowL_get c sz hi hj⟩
theorem Own.row (h : Own w lo hi E sz v n n c) : w.ownsRow lo E sz v n (rowL c sz n) := by
  obtain ⟨xs, h1, h2, h3⟩ := h
  have : xs = rowL c sz n := by
    apply List.ext_getElem?
    intro o
    rcases Nat.lt_or_ge o (n * sz) with ho | ho
    · have hsz : 0 < sz := by
        rcases Nat.eq_zero_or_pos sz with h0 | h0
        · subst h0; omega
        · exact h0
      have a1 : o / sz < n := (Nat.div_lt_iff_lt_mul hsz).2 ho
      have a2 := Nat.mod_lt o hsz
      have e1 := h3 _ _ a1 a2
      have e2 := rowL_get c sz a1 a2
      rw [Nat.div_add_mod'] at e1 e2
      rw [e1, e2]
    · rw [List.getElem?_eq_none (by rw [h1.1]; omega), List.getElem?_eq_none (by rw [rowL_len]; omega)]
  rw [← this]
  exact h1
theorem Sl.news {blk off cap : Nat} (h : Sl w lo hi sz (.slice (some ⟨blk, off, none⟩) n cap) n c) : ∀ j u, (rowL c sz n)[j]? = some u → w.cell? ((⟨blk, off, none⟩ : Addr).add j) = some u := by
  intro o u hu
  obtain ⟨A, cap', he, _, hA⟩ := h
  injection he with e1 _ _
  subst e1
  have ho : o < n * sz := by
    have := (List.getElem?_eq_some_iff.1 hu).1
    rwa [rowL_len] at this
  have hsz : 0 < sz := by
    rcases Nat.eq_zero_or_pos sz with h0 | h0
    · subst h0; omega
    · exact h0
  have a1 : o / sz < n := (Nat.div_lt_iff_lt_mul hsz).2 ho
  have a2 := Nat.mod_lt o hsz
  obtain ⟨b, f, e, _, _, hc⟩ := hA (Nat.lt_of_le_of_lt (Nat.zero_le _) a1)
  injection e with e
  injection e with e1 e2
  subst e1 e2
  have e3 := rowL_get c sz a1 a2
  rw [Nat.div_add_mod'] at e3
  rw [hu] at e3
  have e4 := hc _ _ a1 a2
  rw [Nat.add_assoc, Nat.div_add_mod'] at e4
  rw [Addr.add_lit, e4, e3]
/-- Rows whose elements are of two types lie in two blocks. -/
theorem OwnL.apart {a b E' sz' n' K K' : Nat} {u : Value} {cc cc' : Nat → Value} (h : OwnL w a (a + 1) E sz v n K cc) (h' : OwnL w b (b + 1) E' sz' u n' K' cc') (hn : 0 < n) (hn' : 0 < n') (hE : E ≠ E') : a ≠ b := by
  rcases h with ⟨h0, _⟩ | ⟨g, cap, xs, rfl, h1, h2, h3, ⟨_, h4⟩, _⟩
  · omega
  rcases h' with ⟨h0, _⟩ | ⟨g', cap', xs', rfl, h1', h2', h3', ⟨_, h4'⟩, _⟩
  · omega
  obtain rfl : g = a := by omega
  obtain rfl : g' = b := by omega
  rcases h4 with ⟨h4, _⟩ | ⟨x, _, cur, he, _, hh, _⟩
  · cases h4
  rcases h4' with ⟨h4', _⟩ | ⟨x', _, cur', he', _, hh', _⟩
  · cases h4'
  injection he with e1 _ _
  injection e1 with e1
  injection e1 with e1
  injection he' with e2 _ _
  injection e2 with e2
  injection e2 with e2
  subst e1 e2
  intro e
  subst e
  rw [hh] at hh'
  injection hh' with hh'
  injection hh' with _ e3 _
  exact hE e3
end
/-- An append onto a row of the call's own: in its own block, or in a new one. -/
theorem wpList_append_two {P : Program} (w : World) {ops : Array Oper} {rest : List Oper} {o : Oper} {a : Act} {Q : Exit → Act → World → Prop} (hgd : o.guard = none) (s x : Operand) (t : TypeId)
    (ho : o.op = .call { callee := .builtin .append, args := #[s, x], argTypes := #[t, t] })
    (base : Nat) (e : TypeId) (i : TypeInfo) (z : Value) (size bytes : Nat) (ht : P.underlying t = some (.slice e)) (hi : P.info? e = some i) (hz : i.zero = some z)
    (hsize : i.size = size) (hby : i.bytes = bytes) (hzs : z.cells.size = size) (hsz : 0 < size)
    (v : Value) (n : Nat) (xs : List Value) (hs : a.eval s = v) (hown : w.ownsRow base e size v n xs)
    (ad : Addr) (m c : Nat) (news : List Value) (hx : a.eval x = .slice (some ad) m c) (hl : news.length = m * size) (hnews : ∀ j u, news[j]? = some u → w.cell? (ad.add j) = some u) (h1 : ∀ u ∈ news, u.oneCell' = true) (hm : 0 < m)
    (h63 : n + m ≤ maxLen) (hbytes : (n + m) * bytes ≤ 140737488355328)
    (h : ∀ v' w', ((v'.ownBlock = v.ownBlock ∧ w'.ownsRow base e size v' (n + m) (xs ++ news) ∧ w.grownBy w' v.ownBlock) ∨ (w'.ownsRow w.heap.size e size v' (n + m) (xs ++ news) ∧ w.grownBy w' none)) → wpList P ops Q rest (a.put o.dst v') w') : wpList P ops Q (o :: rest) a w := by
  rcases hown.2 with ⟨rfl, rfl⟩ | ⟨g, cap, cur, rfl, hbg, hg, hnc, hcm, hcs, htake⟩
  · refine wpList_append_grows w hgd s x t ho e i z size bytes ht hi hz hsize hby hzs hsz none 0 0 [] hs (fun _ => ⟨rfl, rfl⟩) (by simp) (fun b hb => by cases hb) ad m c news hx hl hnews h1 (by omega) h63 hbytes ?_
    intro v' w' r1 r2
    have hx0 : xs = [] := List.eq_nil_of_length_eq_zero (by simpa using hown.1)
    subst hx0
    exact h v' w' (.inr ⟨r1, r2⟩)
  · by_cases hroom : n + m ≤ cap
    · refine wpList_append_own_spare w hgd s x t ho base e i size ht hi hsize g n cap xs hs hown ad m c news hx hl hnews h1 hroom ?_
      intro w' r1 r2
      exact h _ w' (.inl ⟨rfl, r1, r2⟩)
    · refine wpList_append_grows w hgd s x t ho e i z size bytes ht hi hz hsize hby hzs hsz (some ⟨g, 0, none⟩) n cap xs hs (fun h => by cases h) hown.1 (fun b hb => by cases hb; exact hown.cells rfl) ad m c news hx hl hnews h1 (by omega) h63 hbytes ?_
      intro v' w' r1 r2
      exact h v' w' (.inr ⟨r1, r2⟩)

end Go.Proofs.YtnmmkechkcfjnaaGreatDoor

/-
  Plain words: one period more in its place.-/
namespace Go.Proofs.YtnmmkechkcfjnaaGreatDoor
set_option linter.unusedVariables false
set_option linter.unusedSimpArgs false

def adS (c : Nat → ByteArray) (k : Nat) (s : ByteArray) (i : Nat) : ByteArray := if i < k then c i else if i = k then s else c (i - 1)
def adI (a : Nat → Int) (k : Nat) (x : Int) (i : Nat) : Int := if i < k then a i else if i = k then x else a (i - 1)
def adK (c : Nat → ByteArray) (a : Nat → Int) (n : Nat) (s : ByteArray) (x : Int) : Nat := lead (fun i => befB (c i) (a i) s x) n
def adF (c : Nat → ByteArray) (a b : Nat → Int) (n : Nat) (s : ByteArray) (x y : Int) : Bool := pdB c a b n && perB s x y
def adOk (c : Nat → ByteArray) (a b : Nat → Int) (n : Nat) (s : ByteArray) (x y : Int) : Bool := adF c a b n s x y && pdB (adS c (adK c a n s x) s) (adI a (adK c a n s x) x) (adI b (adK c a n s x) y) (n + 1)
def adN (c : Nat → ByteArray) (a b : Nat → Int) (n : Nat) (s : ByteArray) (x y : Int) : Nat := if adOk c a b n s x y = true then n + 1 else 0
theorem adN_le {c : Nat → ByteArray} {a b : Nat → Int} {n : Nat} {s : ByteArray} {x y : Int} (hn : n ≤ 1048575) : adN c a b n s x y ≤ 1048576 := by
  unfold adN
  split <;> omega
theorem adK_le (c : Nat → ByteArray) (a : Nat → Int) (n : Nat) (s : ByteArray) (x : Int) : adK c a n s x ≤ n := (lead_spec _ _).1
theorem befB_iff {s s' : ByteArray} {x x' : Int} : befB s x s' x' = true ↔ x < x' ∨ x = x' ∧ ltS s s' = true := by simp [befB]
theorem befB_trans {s t u : ByteArray} {x y z : Int} (h : befB s x t y = true) (h' : befB t y u z = true) : befB s x u z = true := by
  rw [befB_iff] at *
  rcases h with h | ⟨h, h1⟩
  · rcases h' with h' | ⟨h', _⟩
    · exact .inl (by omega)
    · exact .inl (by omega)
  · rcases h' with h' | ⟨h', h2⟩
    · exact .inl (by omega)
    · exact .inr ⟨by omega, ltS_trans h1 h2⟩
/-- Periods rise. -/
theorem pd_lt {c : Nat → ByteArray} {a b : Nat → Int} {n : Nat} (h : pdB c a b n = true) {i : Nat} : ∀ {j : Nat}, i < j → j < n → befB (c i) (a i) (c j) (a j) = true
  | j + 1, h1, h2 => by
    have h3 := ((pd_facts h).2 (j + 1) h2).2.1
    have h4 : befB (c j) (a j) (c (j + 1)) (a (j + 1)) = true := by simpa [ordI] using h3
    rcases Nat.lt_or_ge i j with h5 | h5
    · exact befB_trans (pd_lt h h5 (by omega)) h4
    · obtain rfl : i = j := by omega
      exact h4
/-- The row with one more. -/
theorem rowL_ad {c : Nat → ByteArray} {a b : Nat → Int} {k n : Nat} {s : ByteArray} {x y : Int} (hk : k ≤ n) :
    rowL (siiC c a b) 3 k ++ [.string s, .int .i64 x, .int .i64 y] ++ rowL (siiC (fun i => c (k + i)) (fun i => a (k + i)) (fun i => b (k + i))) 3 (n - k) = rowL (siiC (adS c k s) (adI a k x) (adI b k y)) 3 (n + 1) := by
  have h1 : rowL (siiC c a b) 3 k ++ [.string s, .int .i64 x, .int .i64 y] = rowL (siiC (adS c k s) (adI a k x) (adI b k y)) 3 (k + 1) := by
    rw [rowL]
    congr 1
    · refine rowL_congr fun i j hi _ => ?_
      simp only [siiC, adS, adI, hi, if_true]
    · simp [List.range, List.range.loop, siiC, adS, adI]
  rw [h1, rowL_app, show k + 1 + (n - k) = n + 1 by omega]
  refine rowL_congr fun i j hi _ => ?_
  split
  · rfl
  · rename_i h2
    have h3 : ¬ i < k := by omega
    have h4 : ¬ i = k := by omega
    have h5 : k + (i - (k + 1)) = i - 1 := by omega
    simp only [siiC, adS, adI, h3, h4, if_false, h5]

end Go.Proofs.YtnmmkechkcfjnaaGreatDoor

/-
  Regions that draw their order, two operations that write at choice: a tree of orders.-/
namespace Go.Proofs.YtnmmkechkcfjnaaGreatDoor
set_option linter.unusedVariables false
set_option linter.unusedSimpArgs false
open Go

inductive MT where
  | nil : MT
  | step (k : Nat) (b : Bool) (t : MT) : MT
  | fork (i : Nat) (s : MT) (j : Nat) (t : MT) : MT
def MT.len : MT → Nat
  | .nil => 0
  | .step _ _ t => t.len + 1
  | .fork _ s _ _ => s.len + 1
section
variable {P : Program} {ops : Array Oper} {md : Region.Mode} {C : World → Prop} {Q : Act → World → Prop}
def MT.from (md : Region.Mode) (ops : Array Oper) : MT → Array Bool → Bool
  | .nil, listed => (Region.ready md ops listed).isEmpty
  | .step k b r, listed => (if b then (Region.ready md ops listed).contains k && Region.free md ops listed k else Region.ready md ops listed == [k]) && r.from md ops (listed.setIfInBounds k true)
  | .fork i s j t, listed => Region.ready md ops listed == [i, j] && (s.len == t.len) && s.from md ops (listed.setIfInBounds i true) && t.from md ops (listed.setIfInBounds j true)
def wpMT (P : Program) (ops : Array Oper) (C : World → Prop) (Q : Act → World → Prop) : MT → Act → World → Prop
  | .nil, a, w => Q a w
  | .step k true r, a, w => ∃ o v, ops[k]? = some o ∧ YieldsAll P ops C o v a ∧ wpMT P ops C Q r (a.put o.dst v) w
  | .step k false r, a, w => eOp P ops k (fun a' w' => C w' ∧ wpMT P ops C Q r a' w') a w
  | .fork i s j t, a, w => eOp P ops i (fun a' w' => C w' ∧ wpMT P ops C Q s a' w') a w ∧ eOp P ops j (fun a' w' => C w' ∧ wpMT P ops C Q t a' w') a w
theorem wpAnyM_tree (hs : Region.noSelect ops = true) : ∀ (r : MT) (listed : Array Bool) (a : Act) (w : World), C w → r.from md ops listed = true → wpMT P ops C Q r a w → wpAnyM P md ops C Q r.len listed a w
  | .nil, _, _, _, _, hB, h => ⟨by simpa [MT.from] using hB, h⟩
  | .step k true r, listed, a, w, hC, hB, h => by
    simp only [MT.from, if_true, Bool.and_eq_true] at hB
    obtain ⟨⟨hr, hf⟩, hB'⟩ := hB
    obtain ⟨o, v, ho, hy, hK⟩ := h
    exact wpAnyM_first ho (Region.noSelect_spec hs) r.len listed a w hC (Region.free_spec ho hf) (by simpa using hr) hy (wpAnyM_tree hs r _ _ _ hC hB' hK)
  | .step k false r, listed, a, w, hC, hB, h => by
    simp only [MT.from, Bool.false_eq_true, if_false, Bool.and_eq_true, beq_iff_eq] at hB
    obtain ⟨hr, hB'⟩ := hB
    refine ⟨fun h0 => (by rw [hr] at h0; cases h0), fun i hi => ?_⟩
    rw [hr] at hi
    obtain rfl : i = k := by simpa using hi
    exact eOp_mono (fun a' w' h' => ⟨h'.1, wpAnyM_tree hs r _ a' w' h'.1 hB' h'.2⟩) h
  | .fork i s j t, listed, a, w, hC, hB, h => by
    simp only [MT.from, Bool.and_eq_true, beq_iff_eq] at hB
    obtain ⟨⟨⟨hr, hl⟩, hB1⟩, hB2⟩ := hB
    refine ⟨fun h0 => (by rw [hr] at h0; cases h0), fun k hk => ?_⟩
    rw [hr] at hk
    simp only [List.mem_cons, List.mem_nil_iff, or_false] at hk
    rcases hk with rfl | rfl
    · exact eOp_mono (fun a' w' h' => ⟨h'.1, wpAnyM_tree hs s _ a' w' h'.1 hB1 h'.2⟩) h.1
    · refine eOp_mono (fun a' w' h' => ⟨h'.1, ?_⟩) h.2
      rw [hl]
      exact wpAnyM_tree hs t _ a' w' h'.1 hB2 h'.2
theorem wp_region_tree {id : Nat} {Q : Exit → Act → World → Prop} {a : Act} {w : World} {l : List Oper} (r : MT) (C : World → Prop) (hm : P.follows .mixedOrders = true) (hs : Region.noSelect l.toArray = true) (hl : r.len = l.toArray.size)
    (hB : r.from .any l.toArray (Array.replicate l.toArray.size false) = true) (hC : C { w with drawn := w.drawn + 1 })
    (h : wpMT P l.toArray C (fun a' w' => Q .normal a' w') r a { w with drawn := w.drawn + 1 }) : (Code.region id l.toArray true).wp P Q a w := by
  refine wp_region_any hm (wpAny_of_M (C := C) (Q := fun a' w' => Q .normal a' w') (fun _ _ h => h) _ _ _ _ ?_)
  rw [← hl]
  exact wpAnyM_tree hs r _ a _ hC (by rw [hl]; exact hB) h
theorem tree_look {k : Nat} {r : MT} {a : Act} {w : World} (o : Oper) (v : Value) (hk : ops[k]? = some o) (hw : Region.wanted o (yielded ops a.tmps) = true) (hv : ∀ w, C w → (execOp a.eval o).run P w = .ok (.value v) w)
    (h : wpMT P ops C Q r (a.put o.dst v) w) : wpMT P ops C Q (.step k true r) a w := ⟨o, v, hk, .inl ⟨hw, hv⟩, h⟩
theorem tree_value {k : Nat} {r : MT} {a : Act} {w : World} (o : Oper) (v : Value) (w' : World) (hk : ops[k]? = some o) (hw : Region.wanted o (yielded ops a.tmps) = true) (hv : (execOp a.eval o).run P w = .ok (.value v) w') (hC : C w')
    (h : wpMT P ops C Q r (a.put o.dst v) w') : eOp P ops k (fun a' w' => C w' ∧ wpMT P ops C Q r a' w') a w := by
  unfold eOp
  simp only [hk, hw, if_true, hv, goesUpon]
  exact ⟨hC, h⟩
theorem wpMT_eff {k : Nat} {r : MT} {a : Act} {w : World} (h : eOp P ops k (fun a' w' => C w' ∧ wpMT P ops C Q r a' w') a w) : wpMT P ops C Q (.step k false r) a w := h
theorem wpMT_fork {i j : Nat} {s t : MT} {a : Act} {w : World} (h : eOp P ops i (fun a' w' => C w' ∧ wpMT P ops C Q s a' w') a w) (h' : eOp P ops j (fun a' w' => C w' ∧ wpMT P ops C Q t a' w') a w) : wpMT P ops C Q (.fork i s j t) a w := ⟨h, h'⟩
theorem wpMT_nil {a : Act} {w : World} (h : Q a w) : wpMT P ops C Q .nil a w := h
end

end Go.Proofs.YtnmmkechkcfjnaaGreatDoor

/-
  Walks: periods: one is valid; one comes before another; the least number of crews.-/
namespace Go.Proofs.YtnmmkechkcfjnaaGreatDoor
set_option linter.unusedVariables false
set_option linter.unusedSimpArgs false
open Go.RowKit

def lcN (f t m r : Int) : Int := min (upF r m + 1) (upF (t - f) m)
def spanB (f t m r : Int) : Bool := inB f 0 9999 && inB t 0 9999 && decide (f < t) && inB m 1 720 && inB r 0 720
theorem lc_min (x y : Int) : (if x < y then x else y) = min x y := by split <;> omega
theorem isMinute_any (m : Int) (w : World) :
    Calls Tryz.prog 31 #[.int .i64 m] w fun e w' => e = .returned (.bool (inB m 0 9999)) ∧ w = w' := by
  go_enter Tryz.func31, Tryz.ntmps31
  go_wp2_with (go_at_call 32; refine (inside_any _ _ _ _).mono ?_; rintro e w' ⟨rfl, rfl⟩)
  go_ret
  exact ⟨rfl, rfl⟩
theorem rfMinute_any (m : Int) (w : World) :
    Calls Tryz.prog 55 #[.int .i64 m] w fun e w' => e = .returned (.bool (inB m 0 9999)) ∧ w = w' := by
  go_enter Tryz.func55, Tryz.ntmps55
  go_wp2_with (go_at_call 56; refine (l1In_any _ _ _ _).mono ?_; rintro e w' ⟨rfl, rfl⟩)
  go_ret
  exact ⟨rfl, rfl⟩
theorem rfMost_any (m : Int) (w : World) :
    Calls Tryz.prog 67 #[.int .i64 m] w fun e w' => e = .returned (.bool (inB m 1 720)) ∧ w = w' := by
  go_enter Tryz.func67, Tryz.ntmps67
  go_wp2_with (go_at_call 56; refine (l1In_any _ _ _ _).mono ?_; rintro e w' ⟨rfl, rfl⟩)
  go_ret
  exact ⟨rfl, rfl⟩
theorem rfLeast_any (m : Int) (w : World) :
    Calls Tryz.prog 68 #[.int .i64 m] w fun e w' => e = .returned (.bool (inB m 0 720)) ∧ w = w' := by
  go_enter Tryz.func68, Tryz.ntmps68
  go_wp2_with (go_at_call 56; refine (l1In_any _ _ _ _).mono ?_; rintro e w' ⟨rfl, rfl⟩)
  go_ret
  exact ⟨rfl, rfl⟩
set_option maxHeartbeats 800000 in
theorem leastCrews_any (f t m r : Int) (w : World) (h : spanB f t m r = true) :
    Calls Tryz.prog 34 #[.int .i64 f, .int .i64 t, .int .i64 m, .int .i64 r] w fun e w' => e = .returned (.int .i64 (lcN f t m r)) ∧ w = w' := by
  simp only [spanB, Bool.and_eq_true, inB_iff, decide_eq_true_eq] at h
  obtain ⟨⟨⟨⟨h1, h2⟩, h3⟩, h4⟩, h5⟩ := h
  have u1 := upF_bd (a := r) (d := m) (by omega) (by omega) (by omega)
  go_enter Tryz.func34, Tryz.ntmps34
  go_wp2_with (go_at_call 35; refine (upTo_any _ _ _ (by omega) (by omega) (by omega) (by omega)).mono ?_; rintro e w' ⟨rfl, rfl⟩)
  all_goals go_ret
  all_goals exact ⟨ret_int (by unfold lcN; omega), rfl⟩
def lcNN (f t m r : Int) : Int := if spanB f t m r = true then lcN f t m r else 0
set_option maxHeartbeats 800000 in
theorem LeastCrews_impl (f t m r : Int) (w : World) :
    Calls Tryz.prog 8 #[.int .i64 f, .int .i64 t, .int .i64 m, .int .i64 r] w fun e w' => e = .returned (.tuple #[.int .i64 (lcNN f t m r), .bool (spanB f t m r)]) ∧ w = w' := by
  cases hc1_0 : inB f 0 9999 with
  | false =>
    have HA : Hid (spanB f t m r = false) := by show _ = _; simp [spanB, *]
    go_enter Tryz.func8, Tryz.ntmps8
    go_wp2_with (first | (go_at_call 31; refine (isMinute_any _ _).mono ?_; rintro e w' ⟨rfl, rfl⟩) | (go_at_call 32; refine (inside_any _ _ _ _).mono ?_; rintro e w' ⟨rfl, rfl⟩))
    go_ret2
    exact ⟨ret_ib (by rw [lcNN, HA.out]; rfl) HA.out.symm, rfl⟩
  | true =>
    obtain ⟨hc1_0l, hc1_0r⟩ := inB_iff.1 hc1_0
    cases hc1_1 : inB t 0 9999 with
    | false =>
      have HA : Hid (spanB f t m r = false) := by show _ = _; simp [spanB, *]
      go_enter Tryz.func8, Tryz.ntmps8
      go_wp2_with (first | (go_at_call 31; refine (isMinute_any _ _).mono ?_; rintro e w' ⟨rfl, rfl⟩) | (go_at_call 32; refine (inside_any _ _ _ _).mono ?_; rintro e w' ⟨rfl, rfl⟩))
      go_ret2
      exact ⟨ret_ib (by rw [lcNN, HA.out]; rfl) HA.out.symm, rfl⟩
    | true =>
      obtain ⟨hc1_1l, hc1_1r⟩ := inB_iff.1 hc1_1
      cases hc1_2 : decide (f < t) with
      | false =>
        have hc1_2l := of_decide_eq_false hc1_2
        have HA : Hid (spanB f t m r = false) := by show _ = _; simp [spanB, *]
        go_enter Tryz.func8, Tryz.ntmps8
        go_wp2_with (first | (go_at_call 31; refine (isMinute_any _ _).mono ?_; rintro e w' ⟨rfl, rfl⟩) | (go_at_call 32; refine (inside_any _ _ _ _).mono ?_; rintro e w' ⟨rfl, rfl⟩))
        go_ret2
        exact ⟨ret_ib (by rw [lcNN, HA.out]; rfl) HA.out.symm, rfl⟩
      | true =>
        have hc1_2l := of_decide_eq_true hc1_2
        cases hc1_3 : inB m 1 720 with
        | false =>
          have HA : Hid (spanB f t m r = false) := by show _ = _; simp [spanB, *]
          go_enter Tryz.func8, Tryz.ntmps8
          go_wp2_with (first | (go_at_call 31; refine (isMinute_any _ _).mono ?_; rintro e w' ⟨rfl, rfl⟩) | (go_at_call 32; refine (inside_any _ _ _ _).mono ?_; rintro e w' ⟨rfl, rfl⟩))
          go_ret2
          exact ⟨ret_ib (by rw [lcNN, HA.out]; rfl) HA.out.symm, rfl⟩
        | true =>
          obtain ⟨hc1_3l, hc1_3r⟩ := inB_iff.1 hc1_3
          cases hc1_4 : inB r 0 720 with
          | false =>
            have HA : Hid (spanB f t m r = false) := by show _ = _; simp [spanB, *]
            go_enter Tryz.func8, Tryz.ntmps8
            go_wp2_with (first | (go_at_call 31; refine (isMinute_any _ _).mono ?_; rintro e w' ⟨rfl, rfl⟩) | (go_at_call 32; refine (inside_any _ _ _ _).mono ?_; rintro e w' ⟨rfl, rfl⟩))
            go_ret2
            exact ⟨ret_ib (by rw [lcNN, HA.out]; rfl) HA.out.symm, rfl⟩
          | true =>
            obtain ⟨hc1_4l, hc1_4r⟩ := inB_iff.1 hc1_4
            have HA : Hid (spanB f t m r = true) := by show _ = _; simp [spanB, *]
            go_enter Tryz.func8, Tryz.ntmps8
            go_wp2_with (first | (go_at_call 31; refine (isMinute_any _ _).mono ?_; rintro e w' ⟨rfl, rfl⟩) | (go_at_call 32; refine (inside_any _ _ _ _).mono ?_; rintro e w' ⟨rfl, rfl⟩) | (go_at_call 34; refine (leastCrews_any _ _ _ _ _ HA.out).mono ?_; rintro e w' ⟨rfl, rfl⟩))
            go_ret2
            exact ⟨ret_ib (by rw [lcNN, HA.out]; rfl) HA.out.symm, rfl⟩
set_option maxHeartbeats 800000 in
theorem rfSpan_any (f t m r : Int) (w : World) :
    Calls Tryz.prog 36 #[.int .i64 f, .int .i64 t, .int .i64 m, .int .i64 r] w fun e w' => e = .returned (.bool (spanB f t m r)) ∧ w = w' := by
  cases hc2_0 : inB f 0 9999 with
  | false =>
    go_enter Tryz.func36, Tryz.ntmps36
    go_wp2_with (first | (go_at_call 55; refine (rfMinute_any _ _).mono ?_; rintro e w' ⟨rfl, rfl⟩) | (go_at_call 67; refine (rfMost_any _ _).mono ?_; rintro e w' ⟨rfl, rfl⟩) | (go_at_call 68; refine (rfLeast_any _ _).mono ?_; rintro e w' ⟨rfl, rfl⟩))
    go_ret
    exact ⟨ret_bool (by simp [spanB, *]), rfl⟩
  | true =>
    obtain ⟨hc2_0l, hc2_0r⟩ := inB_iff.1 hc2_0
    cases hc2_1 : inB t 0 9999 with
    | false =>
      go_enter Tryz.func36, Tryz.ntmps36
      go_wp2_with (first | (go_at_call 55; refine (rfMinute_any _ _).mono ?_; rintro e w' ⟨rfl, rfl⟩) | (go_at_call 67; refine (rfMost_any _ _).mono ?_; rintro e w' ⟨rfl, rfl⟩) | (go_at_call 68; refine (rfLeast_any _ _).mono ?_; rintro e w' ⟨rfl, rfl⟩))
      go_ret
      exact ⟨ret_bool (by simp [spanB, *]), rfl⟩
    | true =>
      obtain ⟨hc2_1l, hc2_1r⟩ := inB_iff.1 hc2_1
      cases hc2_2 : decide (f < t) with
      | false =>
        have hc2_2l := of_decide_eq_false hc2_2
        go_enter Tryz.func36, Tryz.ntmps36
        go_wp2_with (first | (go_at_call 55; refine (rfMinute_any _ _).mono ?_; rintro e w' ⟨rfl, rfl⟩) | (go_at_call 67; refine (rfMost_any _ _).mono ?_; rintro e w' ⟨rfl, rfl⟩) | (go_at_call 68; refine (rfLeast_any _ _).mono ?_; rintro e w' ⟨rfl, rfl⟩))
        go_ret
        exact ⟨ret_bool (by simp [spanB, *]), rfl⟩
      | true =>
        have hc2_2l := of_decide_eq_true hc2_2
        cases hc2_3 : inB m 1 720 with
        | false =>
          go_enter Tryz.func36, Tryz.ntmps36
          go_wp2_with (first | (go_at_call 55; refine (rfMinute_any _ _).mono ?_; rintro e w' ⟨rfl, rfl⟩) | (go_at_call 67; refine (rfMost_any _ _).mono ?_; rintro e w' ⟨rfl, rfl⟩) | (go_at_call 68; refine (rfLeast_any _ _).mono ?_; rintro e w' ⟨rfl, rfl⟩))
          go_ret
          exact ⟨ret_bool (by simp [spanB, *]), rfl⟩
        | true =>
          obtain ⟨hc2_3l, hc2_3r⟩ := inB_iff.1 hc2_3
          go_enter Tryz.func36, Tryz.ntmps36
          go_wp2_with (first | (go_at_call 55; refine (rfMinute_any _ _).mono ?_; rintro e w' ⟨rfl, rfl⟩) | (go_at_call 67; refine (rfMost_any _ _).mono ?_; rintro e w' ⟨rfl, rfl⟩) | (go_at_call 68; refine (rfLeast_any _ _).mono ?_; rintro e w' ⟨rfl, rfl⟩))
          go_ret
          exact ⟨ret_bool (by simp [spanB, *]), rfl⟩
set_option maxHeartbeats 800000 in
theorem rfNeeded_any (f t m r : Int) (w : World) (h : spanB f t m r = true) :
    Calls Tryz.prog 39 #[.int .i64 f, .int .i64 t, .int .i64 m, .int .i64 r] w fun e w' => e = .returned (.tuple #[.int .i64 (upF (t - f) m), .int .i64 (lcN f t m r)]) ∧ w = w' := by
  simp only [spanB, Bool.and_eq_true, inB_iff, decide_eq_true_eq] at h
  obtain ⟨⟨⟨⟨h1, h2⟩, h3⟩, h4⟩, h5⟩ := h
  have u1 := upF_bd (a := r) (d := m) (by omega) (by omega) (by omega)
  have hd2 : (m == 0) = false := by simp; omega
  unfold upF at u1
  go_enter Tryz.func39, Tryz.ntmps39
  go_wp2_with (go_at_call 40; refine (l1Least_any _ _ _).mono ?_; rintro e w' ⟨rfl, rfl⟩)
  go_ret2
  exact ⟨by rw [lcN, upF, upF, Int.min_comm]; rfl, rfl⟩
set_option maxHeartbeats 800000 in
theorem LeastCrews_spec (f t m r : Int) (w : World) :
    Calls Tryz.prog 9 #[.int .i64 f, .int .i64 t, .int .i64 m, .int .i64 r] w fun e w' => e = .returned (.tuple #[.int .i64 (lcNN f t m r), .bool (spanB f t m r)]) ∧ w = w' := by
  cases h : spanB f t m r with
  | false =>
    have HA := hide h
    go_enter Tryz.func9, Tryz.ntmps9
    go_wp2_with (go_at_call 36; refine (rfSpan_any _ _ _ _ _).mono ?_; rintro e w' ⟨rfl, rfl⟩)
    go_ret2
    exact ⟨ret_ib (by rw [lcNN, HA.out]; rfl) rfl, rfl⟩
  | true =>
    have HA := hide h
    go_enter Tryz.func9, Tryz.ntmps9
    go_wp2_with (first | (go_at_call 36; refine (rfSpan_any _ _ _ _ _).mono ?_; rintro e w' ⟨rfl, rfl⟩) | (go_at_call 39; refine (rfNeeded_any _ _ _ _ _ HA.out).mono ?_; rintro e w' ⟨rfl, rfl⟩))
    go_ret2
    exact ⟨ret_ib (by rw [lcNN, HA.out]; rfl) rfl, rfl⟩

end Go.Proofs.YtnmmkechkcfjnaaGreatDoor

/-
  Plain laws on periods: spells, their starts, what came before. No program in sight.-/
namespace Go.Proofs.YtnmmkechkcfjnaaGreatDoor
set_option linter.unusedVariables false
set_option linter.unusedSimpArgs false

section
variable (c : Nat → ByteArray) (a b : Nat → Int)
/-- The start of a spell, read from above: k periods are left. -/
def sc (s : ByteArray) : Nat → Int → Int
  | 0, f => f
  | k + 1, f => if c k = s ∧ b k = f then sc s k (a k) else sc s k f
def stF (i : Nat) : Int := sc c a b (c i) i (a i)
/-- What is left to be read where the period before is known. -/
def chv (s : ByteArray) (k : Int) (f : Int) : Int := if k < 0 then f else sc c a b s (k.toNat + 1) f
end
section
variable {c : Nat → ByteArray} {a b : Nat → Int} {s : ByteArray} {n : Nat}
theorem sc_skip {m k : Nat} {f : Int} (hm : m ≤ k) (h : ∀ j, m ≤ j → j < k → ¬ c j = s) : sc c a b s k f = sc c a b s m f := by
  induction k with
  | zero =>
    obtain rfl : m = 0 := by omega
    rfl
  | succ k ih =>
    rcases Nat.lt_or_ge k m with h1 | h1
    · obtain rfl : m = k + 1 := by omega
      rfl
    · rw [sc, if_neg (fun h2 => h k h1 (by omega) h2.1)]
      exact ih h1 fun j h2 h3 => h j h2 (by omega)
theorem sc_stay {k : Nat} {f : Int} (h : ∀ j, j < k → c j = s → ¬ b j = f) : sc c a b s k f = f := by
  induction k with
  | zero => rfl
  | succ k ih =>
    rw [sc, if_neg (fun h2 => h k (by omega) h2.1 h2.2)]
    exact ih fun j h1 => h j (by omega)
theorem ch_from {i : Nat} {f : Int} (hs : s = c i) : sc c a b s i f = chv c a b s (befI c i) f := by
  subst hs
  unfold chv befI
  rcases lstI_cases (crewI c (c i)) i with ⟨h1, h2⟩ | ⟨k, h1, h2, h3, h4⟩
  · rw [h1, if_pos (by omega)]
    refine sc_stay fun j hj hc => ?_
    have := h2 j hj
    simp [crewI, hc] at this
  · rw [h2, if_neg (by omega), Int.toNat_natCast]
    refine sc_skip (by omega) fun j hj hj' hc => ?_
    have := h4 j (by omega) hj'
    simp [crewI, hc] at this
theorem ch_step {k : Nat} {f : Int} (hk : c k = s) (hf : b k = f) : sc c a b s (k + 1) f = chv c a b s (befI c k) (a k) := by
  rw [sc, if_pos ⟨hk, hf⟩]
  exact ch_from hk.symm
theorem befI_facts {i k : Nat} (h : befI c i = k) : k < i ∧ c k = c i ∧ ∀ j, k < j → j < i → ¬ c j = c i := by
  unfold befI at h
  rcases lstI_cases (crewI c (c i)) i with ⟨h1, _⟩ | ⟨k', h1, h2, h3, h4⟩
  · omega
  · obtain rfl : k' = k := by omega
    refine ⟨h1, of_decide_eq_true h3, fun j a1 a2 a3 => ?_⟩
    have := h4 j a1 a2
    simp [crewI, a3] at this
theorem bef_le {i k : Nat} (hp : pdB c a b n = true) (hi : i < n) (h : befI c i = k) : b k ≤ a i := by
  obtain ⟨h1, h2, _⟩ := befI_facts h
  exact ((pd_facts hp).2 i hi).2.2 k h1 h2
theorem ch_end {i k : Nat} (hp : pdB c a b n = true) (hi : i < n) (h : befI c i = k) (hn : ¬ b k = a i) : sc c a b (c i) (k + 1) (a i) = a i := by
  obtain ⟨h1, h2, _⟩ := befI_facts h
  have h3 := bef_le hp hi h
  refine sc_stay fun j hj hc hb => ?_
  rcases Nat.lt_or_ge j k with h4 | h4
  · have h5 := ((pd_facts hp).2 k (by omega)).2.2 j h4 (hc.trans h2.symm)
    have h6 := (perB_iff.1 ((pd_facts hp).2 k (by omega)).1).2.2.2
    omega
  · obtain rfl : j = k := by omega
    exact hn hb
/-- The reference's way: it begins with the period itself. -/
theorem st_ref {i : Nat} (hp : pdB c a b n = true) (hi : i < n) : sc c a b (c i) (i + 1) (a i) = stF c a b i := by
  have := (perB_iff.1 ((pd_facts hp).2 i hi).1).2.2.2
  rw [sc, if_neg (by omega)]
  rfl
theorem st_none {i : Nat} (h : befI c i < 0) : stF c a b i = a i := by
  rw [stF, ch_from rfl, chv, if_pos h]
theorem st_gap {i k : Nat} (hp : pdB c a b n = true) (hi : i < n) (h : befI c i = k) (hn : ¬ b k = a i) : stF c a b i = a i := by
  rw [stF, ch_from rfl, h, chv, if_neg (by omega), Int.toNat_natCast]
  exact ch_end hp hi h hn
theorem st_join {i k : Nat} (h : befI c i = k) (he : b k = a i) : stF c a b i = stF c a b k := by
  obtain ⟨_, h2, _⟩ := befI_facts h
  rw [stF, ch_from rfl, h, chv, if_neg (by omega), Int.toNat_natCast, sc, if_pos ⟨h2, he⟩, stF, h2]
theorem st_bd {i : Nat} (hp : pdB c a b n = true) : ∀ i, i < n → 0 ≤ stF c a b i ∧ stF c a b i ≤ a i := by
  intro i
  induction i using Nat.strongRecOn with
  | ind i ih =>
    intro hi
    have h0 := (perB_iff.1 ((pd_facts hp).2 i hi).1).2
    by_cases h : befI c i < 0
    · rw [st_none h]; omega
    · obtain ⟨k, hk⟩ : ∃ k : Nat, befI c i = k := ⟨(befI c i).toNat, by omega⟩
      obtain ⟨h1, h2, _⟩ := befI_facts hk
      by_cases he : b k = a i
      · rw [st_join hk he]
        have h3 := ih k h1 (by omega)
        have h4 := (perB_iff.1 ((pd_facts hp).2 k (by omega)).1).2
        omega
      · rw [st_gap hp hi hk he]; omega
/-- The To of the period before, or -1; as the greatest of all before. -/
def pvM (c : Nat → ByteArray) (b : Nat → Int) (s : ByteArray) : Nat → Int
  | 0 => -1
  | k + 1 => if c k = s then max (pvM c b s k) (b k) else pvM c b s k
theorem pv_none {k : Nat} (h : ∀ j, j < k → ¬ c j = s) : pvM c b s k = -1 := by
  induction k with
  | zero => rfl
  | succ k ih => rw [pvM, if_neg (h k (by omega)), ih fun j hj => h j (by omega)]
theorem pv_at {k m : Nat} {B : Int} (hm : m < k) (hc : c m = s) (hB : b m = B) (h0 : 0 ≤ B) (h1 : ∀ j, j < m → c j = s → b j ≤ B) (h2 : ∀ j, m < j → j < k → ¬ c j = s) : pvM c b s k = B := by
  have lo : ∀ m', m' ≤ m → pvM c b s m' ≤ B := by
    intro m' hm'
    induction m' with
    | zero => simp [pvM]; omega
    | succ m' ih =>
      have := ih (by omega)
      rw [pvM]
      split
      · rename_i h
        have := h1 m' (by omega) h
        omega
      · exact this
  induction k with
  | zero => omega
  | succ k ih =>
    rw [pvM]
    rcases Nat.lt_or_ge m k with h3 | h3
    · rw [if_neg (h2 k h3 (by omega))]
      exact ih h3 fun j a1 a2 => h2 j a1 (by omega)
    · obtain rfl : m = k := by omega
      rw [if_pos hc, hB]
      have := lo m (Nat.le_refl _)
      omega
theorem pv_eq {i : Nat} (hp : pdB c a b n = true) (hi : i < n) : pvM c b (c i) i = if befI c i < 0 then -1 else b (befI c i).toNat := by
  by_cases h : befI c i < 0
  · rw [if_pos h]
    refine pv_none fun j hj hc => ?_
    unfold befI at h
    rcases lstI_cases (crewI c (c i)) i with ⟨_, h2⟩ | ⟨k, _, h2, _, _⟩
    · have := h2 j hj
      simp [crewI, hc] at this
    · omega
  · rw [if_neg h]
    obtain ⟨k, hk⟩ : ∃ k : Nat, befI c i = k := ⟨(befI c i).toNat, by omega⟩
    obtain ⟨h1, h2, h3⟩ := befI_facts hk
    have h4 := (perB_iff.1 ((pd_facts hp).2 k (by omega)).1).2
    rw [hk, Int.toNat_natCast]
    refine pv_at h1 h2 rfl (by omega) (fun j hj hc => ?_) h3
    have := ((pd_facts hp).2 k (by omega)).2.2 j hj (hc.trans h2.symm)
    omega
end

end Go.Proofs.YtnmmkechkcfjnaaGreatDoor

/-
  Walks: the laws' own helpers for Period: copies, comparisons, sizes (printed by gen_data.py).-/
namespace Go.Proofs.YtnmmkechkcfjnaaGreatDoor
set_option linter.unusedVariables false
set_option linter.unusedSimpArgs false
open Go.RowKit


end Go.Proofs.YtnmmkechkcfjnaaGreatDoor
