/-
  Plain words: a list of texts put in their order one by one; the same, sorted and without doubles.
-/
import Derived.Test.YtaijbihjkbpoeaaPStr
import Derived.Lib.SlicesCompact
namespace Go.Proofs.Ytaijbihjkbpoeaa
set_option linter.unusedVariables false
set_option linter.unusedSimpArgs false

theorem bl_lt : ∀ {a b : List UInt8}, a < b ↔ Op.bytesLess a b = true
  | [], [] => by simp [Op.bytesLess]
  | [], _ :: _ => by simp [Op.bytesLess]
  | _ :: _, [] => by simp [Op.bytesLess]
  | a :: x, b :: y => by
    rw [List.cons_lt_cons_iff, bl_lt]
    simp [Op.bytesLess]
abbrev BL (a b : List UInt8) : Prop := Op.bytesLess a b = true
theorem bl_no {a : List UInt8} : ¬ BL a a := by
  intro h
  rw [BL, bl_irrefl] at h
  cases h
/-- Strictly rising. -/
def SS (l : List (List UInt8)) : Prop := l.Pairwise BL
theorem ss_unique : ∀ {l l' : List (List UInt8)}, SS l → SS l' → (∀ x, x ∈ l ↔ x ∈ l') → l = l'
  | [], [], _, _, _ => rfl
  | [], b :: l', _, _, h => by have := (h b).2 (by simp); simp at this
  | a :: l, [], _, _, h => by have := (h a).1 (by simp); simp at this
  | a :: l, b :: l', h1, h2, h => by
    rw [SS, List.pairwise_cons] at h1 h2
    have e : a = b := by
      have x1 := (h a).1 (by simp)
      have x2 := (h b).2 (by simp)
      rw [List.mem_cons] at x1 x2
      rcases x1 with x1 | x1
      · exact x1
      rcases x2 with x2 | x2
      · exact x2.symm
      exact absurd (bl_trans (h2.1 a x1) (h1.1 b x2)) bl_no
    subst e
    congr 1
    refine ss_unique h1.2 h2.2 fun x => ⟨fun hx => ?_, fun hx => ?_⟩
    · have h3 := (h x).1 (by simp [hx])
      rw [List.mem_cons] at h3
      rcases h3 with h3 | h3
      · subst h3; exact absurd (h1.1 _ hx) bl_no
      · exact h3
    · have h3 := (h x).2 (by simp [hx])
      rw [List.mem_cons] at h3
      rcases h3 with h3 | h3
      · subst h3; exact absurd (h2.1 _ hx) bl_no
      · exact h3
/-- One more in its place. -/
def putL (s : List UInt8) : List (List UInt8) → List (List UInt8)
  | [] => [s]
  | x :: l => if Op.bytesLess x s = true then x :: putL s l else if x = s then x :: l else s :: x :: l
theorem putL_mem (s : List UInt8) : ∀ (l : List (List UInt8)) (x : List UInt8), x ∈ putL s l ↔ x = s ∨ x ∈ l
  | [], x => by simp [putL]
  | y :: l, x => by
    rw [putL]
    split
    · rw [List.mem_cons, putL_mem s l x, List.mem_cons]
      constructor
      · rintro (h | h | h) <;> simp [h]
      · rintro (h | h | h) <;> simp [h]
    · split
      · rename_i h
        subst h
        rw [List.mem_cons]
        constructor
        · intro h; exact .inr h
        · rintro (h | h)
          · exact .inl h
          · exact h
      · rw [List.mem_cons]
theorem putL_ss (s : List UInt8) : ∀ {l : List (List UInt8)}, SS l → SS (putL s l)
  | [], _ => by simp [SS, putL]
  | y :: l, h => by
    have h0 := h
    rw [SS, List.pairwise_cons] at h0
    rw [putL]
    split
    · rename_i hy
      rw [SS, List.pairwise_cons]
      refine ⟨fun x hx => ?_, putL_ss s h0.2⟩
      rcases (putL_mem s l x).1 hx with rfl | hx
      · exact hy
      · exact h0.1 x hx
    · split
      · exact h
      · rename_i h1 h2
        have h3 : BL s y := by
          rcases bl_tri y s with h | h | h
          · exact absurd h h1
          · exact absurd h h2
          · exact h
        rw [SS, List.pairwise_cons]
        refine ⟨fun x hx => ?_, h⟩
        rw [List.mem_cons] at hx
        rcases hx with rfl | hx
        · exact h3
        · exact bl_trans h3 (h0.1 x hx)
theorem putL_len (s : List UInt8) : ∀ l : List (List UInt8), (putL s l).length ≤ l.length + 1
  | [] => by simp [putL]
  | y :: l => by
    have := putL_len s l
    rw [putL]
    split
    · simp; omega
    · split <;> simp
/-- Where the place is: what is before it stays. -/
theorem putL_split (s : List UInt8) : ∀ {a b : List (List UInt8)}, (∀ x ∈ a, BL x s) → (∀ y ∈ b.head?, ¬ BL y s) → putL s (a ++ b) = if b.head? = some s then a ++ b else a ++ (s :: b)
  | [], [], _, _ => by simp [putL]
  | [], y :: b, _, h => by
    have h1 : ¬ BL y s := h y (by simp)
    rw [List.nil_append, putL, if_neg h1]
    simp
  | x :: a, b, h, h' => by
    have h1 : BL x s := h x (by simp)
    rw [List.cons_append, putL, if_pos h1, putL_split s (fun z hz => h z (by simp [hz])) h']
    split <;> rfl
def putAll (L : List (List UInt8)) : List (List UInt8) := L.foldl (fun l s => putL s l) []
theorem putAll_snoc (L : List (List UInt8)) (s : List UInt8) : putAll (L ++ [s]) = putL s (putAll L) := by simp [putAll]
theorem foldl_put : ∀ (L l : List (List UInt8)), SS l → SS (L.foldl (fun l s => putL s l) l) ∧ ∀ x, x ∈ L.foldl (fun l s => putL s l) l ↔ x ∈ L ∨ x ∈ l
  | [], l, h => ⟨h, fun x => by simp⟩
  | s :: L, l, h => by
    obtain ⟨h1, h2⟩ := foldl_put L (putL s l) (putL_ss s h)
    refine ⟨h1, fun x => ?_⟩
    rw [List.foldl_cons, h2, putL_mem, List.mem_cons]
    constructor
    · rintro (h | h | h) <;> simp [h]
    · rintro ((h | h) | h) <;> simp [h]
theorem putAll_ss (L : List (List UInt8)) : SS (putAll L) := (foldl_put L [] (by simp [SS])).1
theorem putAll_mem (L : List (List UInt8)) (x : List UInt8) : x ∈ putAll L ↔ x ∈ L :=
  (foldl_put L [] (by simp [SS])).2 x |>.trans (by simp)
theorem putAll_len : ∀ L l : List (List UInt8), (L.foldl (fun l s => putL s l) l).length ≤ L.length + l.length
  | [], l => by simp
  | s :: L, l => by
    have h1 := putAll_len L (putL s l)
    have h2 := putL_len s l
    simp only [List.foldl_cons, List.length_cons]
    omega
theorem cu_facts (d : Array (List UInt8)) (hs : ∀ i j, i < j → j < d.size → ¬ BL d[j]! d[i]!) : ∀ m, m ≤ d.size → SS (Lib.compactUpTo d m) ∧ ∀ x, x ∈ Lib.compactUpTo d m ↔ ∃ j, j < m ∧ x = d[j]!
  | 0, _ => by simp [Lib.compactUpTo, SS]
  | m + 1, hm => by
    obtain ⟨h1, h2⟩ := cu_facts d hs m (by omega)
    rw [Lib.compactUpTo_succ]
    cases hk : Lib.keeps d m with
    | true =>
      simp only [if_true]
      refine ⟨?_, fun x => ?_⟩
      · rw [SS, List.pairwise_append]
        refine ⟨h1, by simp, fun a ha b hb => ?_⟩
        rw [List.mem_singleton] at hb
        subst hb
        obtain ⟨j, hj, rfl⟩ := (h2 a).1 ha
        rcases bl_tri d[j]! d[m]! with h | h | h
        · exact h
        · exfalso
          simp only [Lib.keeps, decide_eq_true_eq] at hk
          rcases hk with hk | hk
          · omega
          · rcases Nat.lt_or_ge j (m - 1) with h3 | h3
            · have a1 := hs j (m - 1) h3 (by omega)
              have a2 := hs (m - 1) m (by omega) (by omega)
              rw [h] at a1
              rcases bl_tri d[m]! d[m - 1]! with h4 | h4 | h4
              · exact a2 h4
              · exact hk h4
              · exact a1 h4
            · obtain rfl : j = m - 1 := by omega
              exact hk h.symm
        · exact absurd h (hs j m hj (by omega))
      · rw [List.mem_append, h2, List.mem_singleton]
        constructor
        · rintro (⟨j, hj, rfl⟩ | rfl)
          · exact ⟨j, by omega, rfl⟩
          · exact ⟨m, by omega, rfl⟩
        · rintro ⟨j, hj, rfl⟩
          rcases Nat.lt_or_ge j m with h | h
          · exact .inl ⟨j, h, rfl⟩
          · obtain rfl : j = m := by omega
            exact .inr rfl
    | false =>
      simp only [Bool.false_eq_true, if_false, List.append_nil]
      refine ⟨h1, fun x => ?_⟩
      rw [h2]
      simp only [Lib.keeps, decide_eq_false_iff_not, not_or, Classical.not_not] at hk
      constructor
      · rintro ⟨j, hj, rfl⟩
        exact ⟨j, by omega, rfl⟩
      · rintro ⟨j, hj, rfl⟩
        rcases Nat.lt_or_ge j m with h | h
        · exact ⟨j, h, rfl⟩
        · obtain rfl : j = m := by omega
          exact ⟨j - 1, by omega, hk.2⟩
theorem sort_put (L : List (List UInt8)) : Lib.compact (L.mergeSort fun x y => decide (x ≤ y)) = putAll L := by
  have hle : ∀ x y : List UInt8, decide (x ≤ y) = true ↔ ¬ BL y x := fun x y => by
    rw [decide_eq_true_eq, BL, ← bl_lt]
    exact List.not_lt.symm
  have hp : (L.mergeSort fun x y => decide (x ≤ y)).Pairwise fun x y => decide (x ≤ y) = true := by
    refine List.pairwise_mergeSort (fun a b c h1 h2 => ?_) (fun a b => ?_) L
    · rw [hle] at *
      intro h3
      rcases bl_tri b a with h | h | h
      · exact h1 h
      · subst h; exact h2 h3
      · exact h2 (bl_trans h3 h)
    · rw [Bool.or_eq_true, hle, hle]
      rcases bl_tri a b with h | h | h
      · exact .inl fun h' => bl_no (bl_trans h h')
      · subst h; exact .inl bl_no
      · exact .inr fun h' => bl_no (bl_trans h h')
  obtain ⟨M, hM⟩ : ∃ M, (L.mergeSort fun x y => decide (x ≤ y)) = M := ⟨_, rfl⟩
  have hmem : ∀ x, x ∈ M ↔ x ∈ L := fun x => by rw [← hM]; exact List.mem_mergeSort
  rw [hM] at hp ⊢
  obtain ⟨h1, h2⟩ := cu_facts M.toArray (fun i j hij hj => by
    have hj' : j < M.length := by simpa using hj
    have := List.pairwise_iff_getElem.1 hp i j (by omega) hj' hij
    rw [hle] at this
    simpa [hj', show i < M.length by omega] using this) M.length (by simp)
  refine ss_unique h1 (putAll_ss L) fun x => ?_
  rw [putAll_mem, ← hmem]
  refine (h2 x).trans ?_
  constructor
  · rintro ⟨j, hj, rfl⟩
    simp [hj]
  · intro hx
    obtain ⟨j, hj, rfl⟩ := List.mem_iff_getElem.1 hx
    exact ⟨j, hj, by simp [hj]⟩

end Go.Proofs.Ytaijbihjkbpoeaa
