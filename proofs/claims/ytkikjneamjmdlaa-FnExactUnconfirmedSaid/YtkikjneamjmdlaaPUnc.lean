/-
  Plain words: the messages not heard; what the program asks is what the reference asks. No program in sight.
-/
import Derived.Test.YtkikjneamjmdlaaWChanR
import Derived.Test.YtkikjneamjmdlaaPPutI
import Derived.Test.YtkikjneamjmdlaaPIns
namespace Go.Proofs.Ytkikjneamjmdlaa
set_option linter.unusedVariables false
set_option linter.unusedSimpArgs false
open Go.RowKit

/-- The program: the i-th message is among those heard. -/
def ucH (S H : Ms) (i : Nat) : Bool := decide (0 ≤ fstI (eq3 H.f H.m H.g (S.f i) (S.m i) (S.g i)) H.n)
/-- It is kept. -/
def ucK (S H : Ms) (i : Nat) : Bool := !ucH S H i
/-- The reference: it is kept. -/
def ucS (S H : Ms) (i : Nat) : Bool := decide (fstI (mk1 H.f H.m (S.f i) (S.m i)) H.n < 0)
/-- Those of a list that pass. -/
def ucM (P : Nat → Bool) (S : Ms) (N : Nat) : Ms := ⟨fun i => S.f ((flt P N).getD i 0), fun i => S.m ((flt P N).getD i 0), fun i => S.g ((flt P N).getD i 0), (flt P N).length⟩
def ucN (S R H : Ms) : Nat := if chanB S R H = true then S.n else 0
def ucR (S R H : Ms) : Ms := ucM (ucK S H) S (ucN S R H)
theorem uc_eq {S R H : Ms} (h : chanB S R H = true) {i : Nat} (hi : i < S.n) : ucS S H i = ucK S H i := by
  simp only [chanB, Bool.and_eq_true] at h
  obtain ⟨⟨⟨h1, _⟩, h2⟩, h3⟩ := h
  have uS : uniq S.f S.m S.n := sent_uniq h1
  have uR : uniq R.f R.m R.n := within_uniq uS h2
  rw [allB_iff] at h2 h3
  rw [Bool.eq_iff_iff, ucS, ucK, ucH, decide_eq_true_eq, Bool.not_eq_true', decide_eq_false_iff_not]
  have e1 : fstI (mk1 H.f H.m (S.f i) (S.m i)) H.n < 0 ↔ ¬ 0 ≤ fstI (mk1 H.f H.m (S.f i) (S.m i)) H.n := by omega
  rw [e1, has_iff, has_iff]
  refine not_congr ⟨?_, ?_⟩
  · rintro ⟨k, hk, hp⟩
    obtain ⟨a1, a2⟩ := mk1_iff.1 hp
    obtain ⟨⟨r, hr, b1, b2, b3⟩, _⟩ := (wi_iff uR).1 (h3 k hk)
    obtain ⟨⟨s, hs, c1, c2, c3⟩, _⟩ := (wi_iff uS).1 (h2 r hr)
    obtain rfl := uS s i hs hi (c1.trans (b1.trans a1)) (c2.trans (b2.trans a2))
    exact ⟨k, hk, eq3_iff.2 ⟨a1, a2, (c3.trans b3).symm⟩⟩
  · rintro ⟨k, hk, hp⟩
    obtain ⟨a1, a2, _⟩ := eq3_iff.1 hp
    exact ⟨k, hk, mk1_iff.2 ⟨a1, a2⟩⟩
theorem ucM_len (P : Nat → Bool) (S : Ms) (N : Nat) : (ucM P S N).n ≤ N := flt_len P N
theorem ucM_n (P : Nat → Bool) (S : Ms) (N : Nat) : (ucM P S N).n = (flt P N).length := rfl
theorem ucR_fits {S R H : Ms} (h : S.fits) : (ucR S R H).fits := by
  have h1 : ucN S R H ≤ S.n := by rw [ucN]; split <;> omega
  refine ⟨Nat.le_trans (ucM_len _ _ _) (Nat.le_trans h1 h.1), fun i hi => ?_⟩
  have hm : (flt (ucK S H) (ucN S R H)).getD i 0 ∈ flt (ucK S H) (ucN S R H) := by
    have hi' : i < (flt (ucK S H) (ucN S R H)).length := hi
    simp only [List.getD]
    rw [List.getElem?_eq_getElem hi']
    exact List.getElem_mem hi'
  exact h.2 _ (Nat.lt_of_lt_of_le (flt_mem hm).1 h1)
theorem flt_old {P : Nat → Bool} {k i : Nat} (hi : i < (flt P k).length) : (flt P (k + 1)).getD i 0 = (flt P k).getD i 0 := by
  rw [flt]
  simp only [List.getD]
  rw [List.getElem?_append_left hi]
theorem flt_new {P : Nat → Bool} {k : Nat} (h : P k = true) : (flt P (k + 1)).getD (flt P k).length 0 = k := by
  rw [flt_yes h]
  simp [List.getD]
theorem uc_row_yes {P : Nat → Bool} {S : Ms} {k : Nat} (h : P k = true) : rowL (ucM P S (k + 1)).c 3 (ucM P S (k + 1)).n = rowL (ucM P S k).c 3 (ucM P S k).n ++ [.string (S.f k), .int .i64 (S.m k), .string (S.g k)] := by
  have hn : (ucM P S (k + 1)).n = (ucM P S k).n + 1 := by
    rw [ucM_n, ucM_n, flt_yes h, List.length_append]; rfl
  have hc : rowL (ucM P S (k + 1)).c 3 (ucM P S k).n = rowL (ucM P S k).c 3 (ucM P S k).n := rowL_congr fun i j hi _ => by
    simp only [Ms.c, sisC, ucM]
    rw [flt_old hi]
  rw [hn, rowL, hc]
  congr 1
  have e : (List.range 3).map ((ucM P S (k + 1)).c (ucM P S k).n) = [.string ((ucM P S (k + 1)).f (ucM P S k).n), .int .i64 ((ucM P S (k + 1)).m (ucM P S k).n), .string ((ucM P S (k + 1)).g (ucM P S k).n)] := rfl
  rw [e]
  simp only [ucM]
  rw [flt_new h]
theorem uc_no {P : Nat → Bool} {S : Ms} {k : Nat} (h : P k = false) : ucM P S (k + 1) = ucM P S k := by
  simp only [ucM, flt_no h]
theorem ucM_len_yes {P : Nat → Bool} {S : Ms} {k : Nat} (h : P k = true) : (ucM P S (k + 1)).n = (ucM P S k).n + 1 := by
  rw [ucM_n, ucM_n, flt_yes h, List.length_append]; rfl
/-- While the program's list is turned: the first are those kept, the others are as they were. -/
def ucC (P : Nat → Bool) (S : Ms) (k : Nat) (o : Nat) : Value := if o / 3 < (ucM P S k).n then (ucM P S k).c (o / 3) (o % 3) else S.c (o / 3) (o % 3)
theorem flt_all {P : Nat → Bool} : ∀ {k : Nat}, (∀ j, j < k → P j = true) → (flt P k).length = k ∧ ∀ i, i < k → (flt P k).getD i 0 = i
  | 0, _ => ⟨rfl, fun i hi => absurd hi (Nat.not_lt_zero _)⟩
  | k + 1, h => by
    obtain ⟨h1, h2⟩ := flt_all (k := k) fun j hj => h j (by omega)
    refine ⟨by rw [flt_yes (h k (by omega)), List.length_append, h1]; rfl, fun i hi => ?_⟩
    rcases Nat.lt_or_ge i k with h3 | h3
    · rw [flt_old (by omega), h2 i h3]
    · obtain rfl : i = k := by omega
      have := flt_new (P := P) (k := i) (h i (by omega))
      rw [h1] at this
      exact this
/-- At the first that goes nothing has turned. -/
theorem ucC_start {P : Nat → Bool} {S : Ms} {k : Nat} (h : ∀ j, j < k → P j = true) (hk : P k = false) (o : Nat) : ucC P S (k + 1) o = S.c (o / 3) (o % 3) := by
  rw [ucC, uc_no hk]
  split
  · next h1 =>
    have h2 := (flt_all h).2 (o / 3) (by rw [ucM_n, (flt_all h).1] at h1; exact h1)
    simp only [Ms.c, sisC, ucM, h2]
  · rfl
theorem ucC_no {P : Nat → Bool} {S : Ms} {k : Nat} (h : P k = false) (o : Nat) : ucC P S (k + 1) o = ucC P S k o := by
  rw [ucC, ucC, uc_no h]
/-- One more is kept: three cells. -/
theorem ucC_yes {P : Nat → Bool} {S : Ms} {k : Nat} (h : P k = true) (o : Nat) :
    ucC P S (k + 1) o = if o = (ucM P S k).n * 3 + 2 then .string (S.g k) else if o = (ucM P S k).n * 3 + 1 then .int .i64 (S.m k) else if o = (ucM P S k).n * 3 then .string (S.f k) else ucC P S k o := by
  rw [ucC, ucM_len_yes h]
  have hnew : ∀ j, (ucM P S (k + 1)).c (ucM P S k).n j = S.c k j := fun j => by
    simp only [Ms.c, sisC, ucM]
    rw [flt_new h]
  rcases Nat.lt_trichotomy (o / 3) (ucM P S k).n with h1 | h1 | h1
  · rw [if_pos (by omega), if_neg (by omega), if_neg (by omega), if_neg (by omega), ucC, if_pos h1]
    simp only [Ms.c, sisC, ucM]
    rw [flt_old (by rw [ucM_n] at h1; exact h1)]
  · rw [if_pos (by omega), h1, hnew]
    have ho : o = (ucM P S k).n * 3 + o % 3 := by omega
    have h3 : o % 3 < 3 := by omega
    obtain ⟨j, hj⟩ : ∃ j, o % 3 = j := ⟨_, rfl⟩
    rw [hj] at ho h3 ⊢
    match j, h3 with
    | 0, _ => rw [if_neg (by omega), if_neg (by omega), if_pos (by omega)]; rfl
    | 1, _ => rw [if_neg (by omega), if_pos (by omega)]; rfl
    | 2, _ => rw [if_pos (by omega)]; rfl
  · rw [if_neg (by omega), if_neg (by omega), if_neg (by omega), if_neg (by omega), ucC, if_neg (by omega)]
theorem uc_lt {P : Nat → Bool} {S : Ms} {i k n : Nat} (hi : i < n) (hp : P i = false) (hk : i < k) (hkn : k ≤ n) : (ucM P S k).n < n := by
  have key : ∀ m, i < m → (flt P m).length < m := by
    intro m hm
    induction m with
    | zero => omega
    | succ m ih =>
      rcases Nat.lt_or_ge i m with h1 | h1
      · have := ih h1
        rw [flt]
        by_cases h2 : P m = true
        · simp [h2]; omega
        · simp [h2]; omega
      · obtain rfl : i = m := by omega
        rw [flt_no hp]
        have := flt_len P i
        omega
  have := key k hk
  rw [ucM_n]; omega
section
variable {w w' : World} {lo hi E sz n m K cap g : Nat} {v : Value} {cc : Nat → Value}
theorem OwnL.cut (h : OwnL w lo hi E sz (.slice (some ⟨g, 0, none⟩) n cap) n (n * sz) cc) (hm : m ≤ n) : OwnL w lo hi E sz (.slice (some ⟨g, 0, none⟩) m cap) m (m * sz) cc := by
  rcases h with ⟨rfl, _⟩ | ⟨g', cap', xs, h0, a1, a2, a3, ⟨hl, a4⟩, a5⟩
  · obtain rfl : m = 0 := by omega
    exact .inl ⟨rfl, _, _, rfl⟩
  · injection h0 with e1 e2 e3
    injection e1 with e1
    injection e1 with e1
    subst e1 e3
    have hms : m * sz ≤ n * sz := Nat.mul_le_mul_right sz hm
    rcases a4 with ⟨a4, _⟩ | ⟨x, y, cur, he, hb, hh, hnc, hcm, hcs, ht⟩
    · cases a4
    · injection he with e1 _ e3
      injection e1 with e1
      injection e1 with e1
      subst e1 e3
      refine .inr ⟨g, cap, xs.take (m * sz), rfl, a1, a2, by omega, ⟨?_, .inr ⟨g, cap, cur, rfl, hb, hh, by omega, hcm, hcs, ?_⟩⟩, fun o ho _ => ?_⟩
      · rw [List.length_take, hl]; omega
      · rw [← ht, List.take_take]
        congr 1
        omega
      · rw [List.getElem?_take, if_pos (by omega)]
        exact a5 o (by omega) (by omega)
theorem Own.keepO {lo' hi' : Nat} {k : Nat} {c : Nat → Nat → Value} (h : Own w lo' hi' E sz v n k c) (hO : Only lo hi w w') (hd : hi' ≤ lo ∨ hi ≤ lo') (hs : hi' ≤ w.heap.size) : Own w' lo' hi' E sz v n k c :=
  h.keep fun b h1 h2 => hO.block b (by omega) (by omega)
theorem Only.mono' {lo' hi' : Nat} (h : Only lo hi w w') (h1 : lo' ≤ lo) (h2 : hi ≤ hi') : Only lo' hi' w w' := ⟨h.os, h.tape, h.output, h.size, fun k a b => h.block k a (by omega)⟩
theorem OwnL.own {c : Nat → Nat → Value} (h : OwnL w lo hi E sz v n (n * sz) cc) (hn : 0 < n) (hsz : 0 < sz) (hc : ∀ i j, i < n → j < sz → cc (i * sz + j) = c i j) : Own w lo hi E sz v n n c := by
  rcases h with ⟨rfl, _⟩ | ⟨g, cap, xs, rfl, a1, a2, a3, a4, a5⟩
  · omega
  · refine ⟨xs, a4, fun g' h => ?_, fun i j hi hj => ?_⟩
    · simp only [Value.ownBlock, Option.some.injEq] at h
      omega
    · rw [a5 _ (lin_lt hi hj) (lin_lt hi hj), hc i j hi hj]
end
/-- A slice of no elements that keeps room: the row is empty. -/
theorem OwnL.own0 {w : World} {lo hi E sz n K cap g : Nat} {cc : Nat → Value} {c : Nat → Nat → Value} (h : OwnL w lo hi E sz (.slice (some ⟨g, 0, none⟩) n cap) n (n * sz) cc) (hn : 0 < n) (m : Nat) (hm : m ≤ n) (hc : ∀ i j, i < m → j < sz → cc (i * sz + j) = c i j) : Own w lo hi E sz (.slice (some ⟨g, 0, none⟩) m cap) m m c := by
  rcases h with ⟨rfl, _⟩ | ⟨g', cap', xs, h0, a1, a2, a3, ⟨hl, a4⟩, a5⟩
  · omega
  · injection h0 with e1 e2 e3
    injection e1 with e1
    injection e1 with e1
    subst e1 e3
    have hms : m * sz ≤ n * sz := Nat.mul_le_mul_right sz hm
    rcases a4 with ⟨a4, _⟩ | ⟨x, y, cur, he, hb, hh, hnc, hcm, hcs, ht⟩
    · cases a4
    · injection he with e1 _ e3
      injection e1 with e1
      injection e1 with e1
      subst e1 e3
      refine ⟨xs.take (m * sz), ⟨?_, .inr ⟨g, cap, cur, rfl, hb, hh, by omega, hcm, hcs, ?_⟩⟩, fun g' hg' => ?_, fun i j hi hj => ?_⟩
      · rw [List.length_take, hl]; omega
      · rw [← ht, List.take_take]
        congr 1
        omega
      · simp only [Value.ownBlock, Option.some.injEq] at hg'
        omega
      · have hlt := lin_lt hi hj
        rw [List.getElem?_take, if_pos hlt, a5 _ (by omega) (by omega), hc i j hi hj]

end Go.Proofs.Ytkikjneamjmdlaa
