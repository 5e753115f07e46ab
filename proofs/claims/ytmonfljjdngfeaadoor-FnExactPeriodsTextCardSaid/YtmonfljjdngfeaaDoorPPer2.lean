/-
  Plain laws on periods: spells, their starts, what came before. No program in sight.
-/
import Derived.Test.YtmonfljjdngfeaaDoorPPer
namespace Go.Proofs.YtmonfljjdngfeaaDoor
set_option linter.unusedVariables false
set_option linter.unusedSimpArgs false

section
variable (c : Nat → ByteArray) (a b : Nat → Int)
/-- The start of a spell, read from above: k periods are left. -/
def sc (s : ByteArray) : Nat → Int → Int
  | 0, f => f
  | k + 1, f => if c k = s ∧ b k = f then sc s k (a k) else sc s k f
def stF (i : Nat) : Int := sc c a b (c i) i (a i)
/-- What is left to be read where the period before is known. -/
def chv (s : ByteArray) (k : Int) (f : Int) : Int := if k < 0 then f else sc c a b s (k.toNat + 1) f
end
section
variable {c : Nat → ByteArray} {a b : Nat → Int} {s : ByteArray} {n : Nat}
theorem sc_skip {m k : Nat} {f : Int} (hm : m ≤ k) (h : ∀ j, m ≤ j → j < k → ¬ c j = s) : sc c a b s k f = sc c a b s m f := by
  induction k with
  | zero =>
    obtain rfl : m = 0 := by omega
    rfl
  | succ k ih =>
    rcases Nat.lt_or_ge k m with h1 | h1
    · obtain rfl : m = k + 1 := by omega
      rfl
    · rw [sc, if_neg (fun h2 => h k h1 (by omega) h2.1)]
      exact ih h1 fun j h2 h3 => h j h2 (by omega)
theorem sc_stay {k : Nat} {f : Int} (h : ∀ j, j < k → c j = s → ¬ b j = f) : sc c a b s k f = f := by
  induction k with
  | zero => rfl
  | succ k ih =>
    rw [sc, if_neg (fun h2 => h k (by omega) h2.1 h2.2)]
    exact ih fun j h1 => h j (by omega)
theorem ch_from {i : Nat} {f : Int} (hs : s = c i) : sc c a b s i f = chv c a b s (befI c i) f := by
  subst hs
  unfold chv befI
  rcases lstI_cases (crewI c (c i)) i with ⟨h1, h2⟩ | ⟨k, h1, h2, h3, h4⟩
  · rw [h1, if_pos (by omega)]
    refine sc_stay fun j hj hc => ?_
    have := h2 j hj
    simp [crewI, hc] at this
  · rw [h2, if_neg (by omega), Int.toNat_natCast]
    refine sc_skip (by omega) fun j hj hj' hc => ?_
    have := h4 j (by omega) hj'
    simp [crewI, hc] at this
theorem ch_step {k : Nat} {f : Int} (hk : c k = s) (hf : b k = f) : sc c a b s (k + 1) f = chv c a b s (befI c k) (a k) := by
  rw [sc, if_pos ⟨hk, hf⟩]
  exact ch_from hk.symm
theorem befI_facts {i k : Nat} (h : befI c i = k) : k < i ∧ c k = c i ∧ ∀ j, k < j → j < i → ¬ c j = c i := by
  unfold befI at h
  rcases lstI_cases (crewI c (c i)) i with ⟨h1, _⟩ | ⟨k', h1, h2, h3, h4⟩
  · omega
  · obtain rfl : k' = k := by omega
    refine ⟨h1, of_decide_eq_true h3, fun j a1 a2 a3 => ?_⟩
    have := h4 j a1 a2
    simp [crewI, a3] at this
theorem bef_le {i k : Nat} (hp : pdB c a b n = true) (hi : i < n) (h : befI c i = k) : b k ≤ a i := by
  obtain ⟨h1, h2, _⟩ := befI_facts h
  exact ((pd_facts hp).2 i hi).2.2 k h1 h2
theorem ch_end {i k : Nat} (hp : pdB c a b n = true) (hi : i < n) (h : befI c i = k) (hn : ¬ b k = a i) : sc c a b (c i) (k + 1) (a i) = a i := by
  obtain ⟨h1, h2, _⟩ := befI_facts h
  have h3 := bef_le hp hi h
  refine sc_stay fun j hj hc hb => ?_
  rcases Nat.lt_or_ge j k with h4 | h4
  · have h5 := ((pd_facts hp).2 k (by omega)).2.2 j h4 (hc.trans h2.symm)
    have h6 := (perB_iff.1 ((pd_facts hp).2 k (by omega)).1).2.2.2
    omega
  · obtain rfl : j = k := by omega
    exact hn hb
/-- The reference's way: it begins with the period itself. -/
theorem st_ref {i : Nat} (hp : pdB c a b n = true) (hi : i < n) : sc c a b (c i) (i + 1) (a i) = stF c a b i := by
  have := (perB_iff.1 ((pd_facts hp).2 i hi).1).2.2.2
  rw [sc, if_neg (by omega)]
  rfl
theorem st_none {i : Nat} (h : befI c i < 0) : stF c a b i = a i := by
  rw [stF, ch_from rfl, chv, if_pos h]
theorem st_gap {i k : Nat} (hp : pdB c a b n = true) (hi : i < n) (h : befI c i = k) (hn : ¬ b k = a i) : stF c a b i = a i := by
  rw [stF, ch_from rfl, h, chv, if_neg (by omega), Int.toNat_natCast]
  exact ch_end hp hi h hn
theorem st_join {i k : Nat} (h : befI c i = k) (he : b k = a i) : stF c a b i = stF c a b k := by
  obtain ⟨_, h2, _⟩ := befI_facts h
  rw [stF, ch_from rfl, h, chv, if_neg (by omega), Int.toNat_natCast, sc, if_pos ⟨h2, he⟩, stF, h2]
theorem st_bd {i : Nat} (hp : pdB c a b n = true) : ∀ i, i < n → 0 ≤ stF c a b i ∧ stF c a b i ≤ a i := by
  intro i
  induction i using Nat.strongRecOn with
  | ind i ih =>
    intro hi
    have h0 := (perB_iff.1 ((pd_facts hp).2 i hi).1).2
    by_cases h : befI c i < 0
    · rw [st_none h]; omega
    · obtain ⟨k, hk⟩ : ∃ k : Nat, befI c i = k := ⟨(befI c i).toNat, by omega⟩
      obtain ⟨h1, h2, _⟩ := befI_facts hk
      by_cases he : b k = a i
      · rw [st_join hk he]
        have h3 := ih k h1 (by omega)
        have h4 := (perB_iff.1 ((pd_facts hp).2 k (by omega)).1).2
        omega
      · rw [st_gap hp hi hk he]; omega
/-- The To of the period before, or -1; as the greatest of all before. -/
def pvM (c : Nat → ByteArray) (b : Nat → Int) (s : ByteArray) : Nat → Int
  | 0 => -1
  | k + 1 => if c k = s then max (pvM c b s k) (b k) else pvM c b s k
theorem pv_none {k : Nat} (h : ∀ j, j < k → ¬ c j = s) : pvM c b s k = -1 := by
  induction k with
  | zero => rfl
  | succ k ih => rw [pvM, if_neg (h k (by omega)), ih fun j hj => h j (by omega)]
theorem pv_at {k m : Nat} {B : Int} (hm : m < k) (hc : c m = s) (hB : b m = B) (h0 : 0 ≤ B) (h1 : ∀ j, j < m → c j = s → b j ≤ B) (h2 : ∀ j, m < j → j < k → ¬ c j = s) : pvM c b s k = B := by
  have lo : ∀ m', m' ≤ m → pvM c b s m' ≤ B := by
    intro m' hm'
    induction m' with
    | zero => simp [pvM]; omega
    | succ m' ih =>
      have := ih (by omega)
      rw [pvM]
      split
      · rename_i h
        have := h1 m' (by omega) h
        omega
      · exact this
  induction k with
  | zero => omega
  | succ k ih =>
    rw [pvM]
    rcases Nat.lt_or_ge m k with h3 | h3
    · rw [if_neg (h2 k h3 (by omega))]
      exact ih h3 fun j a1 a2 => h2 j a1 (by omega)
    · obtain rfl : m = k := by omega
      rw [if_pos hc, hB]
      have := lo m (Nat.le_refl _)
      omega
theorem pv_eq {i : Nat} (hp : pdB c a b n = true) (hi : i < n) : pvM c b (c i) i = if befI c i < 0 then -1 else b (befI c i).toNat := by
  by_cases h : befI c i < 0
  · rw [if_pos h]
    refine pv_none fun j hj hc => ?_
    unfold befI at h
    rcases lstI_cases (crewI c (c i)) i with ⟨_, h2⟩ | ⟨k, _, h2, _, _⟩
    · have := h2 j hj
      simp [crewI, hc] at this
    · omega
  · rw [if_neg h]
    obtain ⟨k, hk⟩ : ∃ k : Nat, befI c i = k := ⟨(befI c i).toNat, by omega⟩
    obtain ⟨h1, h2, h3⟩ := befI_facts hk
    have h4 := (perB_iff.1 ((pd_facts hp).2 k (by omega)).1).2
    rw [hk, Int.toNat_natCast]
    refine pv_at h1 h2 rfl (by omega) (fun j hj hc => ?_) h3
    have := ((pd_facts hp).2 k (by omega)).2.2 j hj (hc.trans h2.symm)
    omega
end

end Go.Proofs.YtmonfljjdngfeaaDoor
