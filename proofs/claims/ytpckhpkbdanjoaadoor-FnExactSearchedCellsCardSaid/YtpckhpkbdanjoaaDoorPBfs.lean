/-
  Plain words: steps from a cell to all cells, as both texts reckon them: one cell behind the other, its four neighbours in order. No program in sight.
-/
import Derived.Test.YtpckhpkbdanjoaaDoorPFlr
namespace Go.Proofs.YtpckhpkbdanjoaaDoor
set_option linter.unusedVariables false
set_option linter.unusedSimpArgs false

def updI (o : Nat → Int) (i : Nat) (x : Int) : Nat → Int := fun j => if j = i then x else o j
def updP (q : Nat → Int × Int) (i : Nat) (x : Int × Int) : Nat → Int × Int := fun j => if j = i then x else q j
/-- The steps so far; the cells in the order in which they are reached, and how many. -/
structure Bs where
  o : Nat → Int
  q : Nat → Int × Int
  m : Nat
/-- The neighbour of p in the direction d is reached first from p. -/
def pshB (F : Nat → ByteArray) (n : Nat) (p : Int × Int) (d : Nat) (s : Bs) : Bool := opP F n (stp p d) && decide (s.o (ixF F (stp p d)) < 0)
def psh (F : Nat → ByteArray) (n : Nat) (p : Int × Int) (d : Nat) (s : Bs) : Bs :=
  if pshB F n p d s = true then ⟨updI s.o (ixF F (stp p d)) (s.o (ixF F p) + 1), updP s.q s.m (stp p d), s.m + 1⟩ else s
def pshN (F : Nat → ByteArray) (n : Nat) (p : Int × Int) : Nat → Bs → Bs
  | 0, s => s
  | d + 1, s => psh F n p d (pshN F n p d s)
/-- So many rounds at most: cell k and those behind it. -/
def bfs (F : Nat → ByteArray) (n : Nat) : Nat → Nat → Bs → Bs
  | 0, _, s => s
  | f + 1, k, s => if k < s.m then bfs F n f (k + 1) (pshN F n (s.q k) 4 s) else s
def bs0 (F : Nat → ByteArray) (a : Int × Int) : Bs := ⟨updI (fun _ => -1) (ixF F a) 0, fun _ => a, 1⟩
def bsF (F : Nat → ByteArray) (n : Nat) (a : Int × Int) : Bs := bfs F n (n * (F 0).size) 0 (bs0 F a)
/-- The steps from a cell, by the number of the other one. -/
def stF (F : Nat → ByteArray) (n : Nat) (a : Int × Int) : Nat → Int := (bsF F n a).o
/-- What holds all along. -/
structure BInv (F : Nat → ByteArray) (n : Nat) (a : Int × Int) (s : Bs) : Prop where
  hq : ∀ i, i < s.m → opP F n (s.q i) = true ∧ 0 ≤ s.o (ixF F (s.q i))
  hb : ∀ j, -1 ≤ s.o j ∧ s.o j < s.m
  hc : s.m + cntF (fun j => decide (s.o j < 0)) (n * (F 0).size) = n * (F 0).size
  ha : opP F n a = true
  h0 : s.o (ixF F a) = 0
  hp : ∀ j, 0 ≤ s.o j → ∃ p, opP F n p = true ∧ ixF F p = j ∧ (p = a ∨ 1 ≤ s.o j ∧ ∃ d, d < 4 ∧ opP F n (stp p d) = true ∧ s.o (ixF F (stp p d)) + 1 = s.o j)
/-- Back again. -/
def opd (d : Nat) : Nat := if d = 0 then 2 else if d = 1 then 3 else if d = 2 then 0 else 1
theorem opd_lt (d : Nat) : opd d < 4 := by unfold opd; split <;> (try split) <;> (try split) <;> omega
theorem stp_opd {p : Int × Int} {d : Nat} (hd : d < 4) : stp (stp p d) (opd d) = p := by
  have : d = 0 ∨ d = 1 ∨ d = 2 ∨ d = 3 := by omega
  rcases this with rfl | rfl | rfl | rfl <;> (apply Prod.ext <;> simp [stp, opd, dR, dC] <;> omega)
theorem cnt_upd {o : Nat → Int} {i N : Nat} {x : Int} (hi : i < N) (h : o i < 0) (hx : 0 ≤ x) : cntF (fun j => decide (updI o i x j < 0)) N + 1 = cntF (fun j => decide (o j < 0)) N := by
  induction N with
  | zero => omega
  | succ N ih =>
    simp only [cntF]
    rcases Nat.lt_or_ge i N with h1 | h1
    · have h2 := ih h1
      have h3 : updI o i x N = o N := by simp [updI]; omega
      simp only [h3]
      omega
    · obtain rfl : i = N := by omega
      have h2 : cntF (fun j => decide (updI o i x j < 0)) i = cntF (fun j => decide (o j < 0)) i := by
        clear ih hi
        have : ∀ M, M ≤ i → cntF (fun j => decide (updI o i x j < 0)) M = cntF (fun j => decide (o j < 0)) M := by
          intro M
          induction M with
          | zero => intro _; rfl
          | succ M ih =>
            intro hM
            simp only [cntF]
            rw [ih (by omega)]
            have h3 : updI o i x M = o M := by simp [updI]; omega
            simp only [h3]
        exact this i (Nat.le_refl _)
      rw [h2]
      have h3 : updI o i x i = x := by simp [updI]
      simp only [h3]
      have h4 : decide (x < 0) = false := decide_eq_false (by omega)
      have h5 : decide (o i < 0) = true := decide_eq_true h
      simp [h4, h5]
section
variable {F : Nat → ByteArray} {n : Nat} {a p : Int × Int} {d : Nat} {s : Bs}
theorem BInv.psh (h : BInv F n a s) (hp : opP F n p = true) (h0 : 0 ≤ s.o (ixF F p)) (hd : d < 4) : BInv F n a (psh F n p d s) ∧ 0 ≤ (Go.Proofs.YtpckhpkbdanjoaaDoor.psh F n p d s).o (ixF F p) ∧ s.m ≤ (Go.Proofs.YtpckhpkbdanjoaaDoor.psh F n p d s).m ∧ ∀ i, i < s.m → (Go.Proofs.YtpckhpkbdanjoaaDoor.psh F n p d s).q i = s.q i := by
  unfold Go.Proofs.YtpckhpkbdanjoaaDoor.psh
  split
  · rename_i hc
    simp only [pshB, Bool.and_eq_true, decide_eq_true_eq] at hc
    obtain ⟨ho, hneg⟩ := hc
    have hlt := ix_lt ho
    have hpb := h.hb (ixF F p)
    have keep : ∀ j, 0 ≤ s.o j → updI s.o (ixF F (stp p d)) (s.o (ixF F p) + 1) j = s.o j := fun j hj => by
      simp only [updI]
      split
      · rename_i e
        subst e
        omega
      · rfl
    refine ⟨⟨?_, ?_, ?_, h.ha, ?_, ?_⟩, ?_, Nat.le_succ _, ?_⟩
    · intro i hi
      simp only [updP]
      split
      · refine ⟨ho, ?_⟩
        simp [updI]
        omega
      · have h1 := h.hq i (by simp at hi; omega)
        exact ⟨h1.1, by rw [keep _ h1.2]; exact h1.2⟩
    · intro j
      have h1 := h.hb j
      simp only [updI]
      split <;> omega
    · have h1 := h.hc
      have h2 := cnt_upd (o := s.o) (x := s.o (ixF F p) + 1) hlt hneg (by omega)
      simp only
      omega
    · show updI _ _ _ _ = 0
      rw [keep _ (by rw [h.h0]; omega)]
      exact h.h0
    · intro j hj
      simp only at hj ⊢
      by_cases e : j = ixF F (stp p d)
      · refine ⟨stp p d, ho, e.symm, .inr ⟨?_, opd d, opd_lt d, ?_, ?_⟩⟩
        · simp [updI, e]; omega
        · rw [stp_opd hd]; exact hp
        · rw [stp_opd hd, keep _ h0]
          simp [updI, e]
      · have ej : updI s.o (ixF F (stp p d)) (s.o (ixF F p) + 1) j = s.o j := by simp [updI, e]
        rw [ej] at hj ⊢
        obtain ⟨x, h1, h2, h3⟩ := h.hp j hj
        refine ⟨x, h1, h2, h3.imp id fun ⟨h4, d', h5, h6, h7⟩ => ⟨h4, d', h5, h6, ?_⟩⟩
        rw [keep _ (by omega)]
        exact h7
    · show 0 ≤ updI _ _ _ _
      rw [keep _ h0]
      exact h0
    · intro i hi
      simp only [updP]
      rw [if_neg (by omega)]
  · exact ⟨h, h0, Nat.le_refl _, fun _ _ => rfl⟩
theorem BInv.pshN (h : BInv F n a s) (hp : opP F n p = true) (h0 : 0 ≤ s.o (ixF F p)) : ∀ {d : Nat}, d ≤ 4 → BInv F n a (pshN F n p d s) ∧ 0 ≤ (Go.Proofs.YtpckhpkbdanjoaaDoor.pshN F n p d s).o (ixF F p) ∧ s.m ≤ (Go.Proofs.YtpckhpkbdanjoaaDoor.pshN F n p d s).m ∧ ∀ i, i < s.m → (Go.Proofs.YtpckhpkbdanjoaaDoor.pshN F n p d s).q i = s.q i
  | 0, _ => ⟨h, h0, Nat.le_refl _, fun _ _ => rfl⟩
  | d + 1, hd => by
    obtain ⟨h1, h2, h3, h5⟩ := h.pshN hp h0 (d := d) (by omega)
    obtain ⟨h4, h6, h7, h8⟩ := h1.psh hp h2 (d := d) (by omega)
    exact ⟨h4, h6, Nat.le_trans h3 h7, fun i hi => (h8 i (by omega)).trans (h5 i hi)⟩
theorem BInv.m_le (h : BInv F n a s) : s.m ≤ n * (F 0).size := by have := h.hc; omega
theorem BInv.m_lt (h : BInv F n a s) {j : Nat} (hj : j < n * (F 0).size) (hn : s.o j < 0) : s.m < n * (F 0).size := by
  have h1 := h.hc
  have : 0 < cntF (fun j => decide (s.o j < 0)) (n * (F 0).size) := by
    have h2 : cntF (fun j => decide (s.o j < 0)) (j + 1) ≤ cntF (fun j => decide (s.o j < 0)) (n * (F 0).size) := cntF_mono _ hj
    have h3 : decide (s.o j < 0) = true := decide_eq_true hn
    simp only [cntF, h3, if_true] at h2
    omega
  omega
theorem BInv.start (ha : opP F n a = true) : BInv F n a (bs0 F a) := by
  have hlt := ix_lt ha
  have hcn : ∀ M, cntF (fun j => decide ((-1 : Int) < 0)) M = M := by
    intro M
    induction M with
    | zero => rfl
    | succ M ih => simp only [cntF] at *; rw [ih]; simp
  refine ⟨?_, ?_, ?_, ha, ?_, ?_⟩
  · intro i _
    exact ⟨ha, by simp [bs0, updI]⟩
  · intro j
    simp only [bs0, updI]
    split <;> simp
  · have h1 := (cnt_upd (o := fun _ => -1) (x := 0) hlt (by simp) (Int.le_refl 0)).trans (hcn (n * (F 0).size))
    exact (Nat.add_comm _ _).trans h1
  · simp [bs0, updI]
  · intro j hj
    simp only [bs0, updI] at hj
    split at hj
    · rename_i e
      exact ⟨a, ha, e.symm, .inl rfl⟩
    · omega
/-- Behind the last cell nothing more happens. -/
theorem bfs_done {f k : Nat} (h : ¬ k < s.m) : bfs F n f k s = s := by
  cases f with
  | zero => rfl
  | succ f => rw [bfs, if_neg h]
theorem bfs_next {f k : Nat} (h : k < s.m) : bfs F n (f + 1) k s = bfs F n f (k + 1) (pshN F n (s.q k) 4 s) := by rw [bfs, if_pos h]
theorem bfs_inv : ∀ (f k : Nat) (s : Bs), BInv F n a s → n * (F 0).size ≤ f + k → BInv F n a (bfs F n f k s) ∧ ∀ j, 0 ≤ s.o j → (bfs F n f k s).o j = s.o j
  | 0, k, s, h, _ => ⟨h, fun _ _ => rfl⟩
  | f + 1, k, s, h, hf => by
    by_cases hk : k < s.m
    · rw [bfs_next hk]
      obtain ⟨h1, h2⟩ := h.hq k hk
      obtain ⟨h3, _⟩ := h.pshN h1 h2 (Nat.le_refl 4)
      obtain ⟨h5, h6⟩ := bfs_inv f (k + 1) _ h3 (by omega)
      have hkeep : ∀ d, d ≤ 4 → ∀ j, 0 ≤ s.o j → (pshN F n (s.q k) d s).o j = s.o j := by
        intro d
        induction d with
        | zero => intro _ j _; rfl
        | succ d ih =>
          intro hd j hj
          have e1 := ih (by omega) j hj
          show (psh F n (s.q k) d (pshN F n (s.q k) d s)).o j = s.o j
          unfold psh
          split
          · rename_i hc
            simp only [pshB, Bool.and_eq_true, decide_eq_true_eq] at hc
            simp only [updI]
            split
            · rename_i e
              rw [← e, e1] at hc
              omega
            · exact e1
          · exact e1
      exact ⟨h5, fun j hj => by rw [h6 j (by rw [hkeep 4 (Nat.le_refl _) j hj]; exact hj)]; exact hkeep 4 (Nat.le_refl _) j hj⟩
    · rw [bfs_done hk]
      exact ⟨h, fun _ _ => rfl⟩
theorem stF_inv (ha : opP F n a = true) : BInv F n a (bsF F n a) := (bfs_inv _ _ _ (BInv.start ha) (by omega)).1
/-- A cell that is reached is the first one, or has a neighbour one step nearer. -/
theorem stF_near (ha : opP F n a = true) (hp : opP F n p = true) (h : 0 ≤ stF F n a (ixF F p)) : p = a ∨ 1 ≤ stF F n a (ixF F p) ∧ ∃ d, d < 4 ∧ opP F n (stp p d) = true ∧ stF F n a (ixF F (stp p d)) + 1 = stF F n a (ixF F p) := by
  obtain ⟨x, h1, h2, h3⟩ := (stF_inv ha).hp _ h
  obtain rfl := ix_inj h1 hp h2
  exact h3
theorem stF_zero (ha : opP F n a = true) : stF F n a (ixF F a) = 0 := (stF_inv ha).h0
theorem stF_bd (ha : opP F n a = true) (j : Nat) : -1 ≤ stF F n a j ∧ stF F n a j < (n * (F 0).size : Nat) := by
  have h1 := (stF_inv ha).hb j
  have h2 := (stF_inv ha).m_le
  exact ⟨h1.1, by show (bsF F n a).o j < _; omega⟩
theorem stF_wall (ha : opP F n a = true) {j : Nat} (h : 0 ≤ stF F n a j) : ∃ p, opP F n p = true ∧ ixF F p = j := by
  obtain ⟨x, h1, h2, _⟩ := (stF_inv ha).hp _ h
  exact ⟨x, h1, h2⟩
end

end Go.Proofs.YtpckhpkbdanjoaaDoor
