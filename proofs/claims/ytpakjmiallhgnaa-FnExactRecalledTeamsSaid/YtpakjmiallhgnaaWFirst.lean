/-
  Walks: the first team that must turn.
-/
import Derived.Test.YtpakjmiallhgnaaWBoardL
namespace Go.Proofs.Ytpakjmiallhgnaa
set_option linter.unusedVariables false
set_option linter.unusedSimpArgs false
open Go.RowKit

/-- The minute that counts for a team. -/
def ftT (T : Tm) : Int := if tmTOk T = true then tmTN T else T.lm
def ftC (k : Int × Bool × Int) (T : Tm) : Bool := decide (k.1 < 0) || (k.2.1 && !tmTOk T) || ((k.2.1 == tmTOk T) && decide (ftT T < k.2.2))
/-- The best of the first k: its place, whether it is known, its minute. -/
def ft (T : Nat → Tm) : Nat → Int × Bool × Int
  | 0 => (-1, true, 0)
  | k + 1 => if ftC (ft T k) (T k) = true then ((k : Int), tmTOk (T k), ftT (T k)) else ft T k
theorem ft_bd (T : Nat → Tm) : ∀ k, (0 < k → 0 ≤ (ft T k).1) ∧ (ft T k).1 < k ∧ (k = 0 → (ft T k).1 = -1)
  | 0 => ⟨fun h => by omega, by simp [ft], fun _ => rfl⟩
  | k + 1 => by
    obtain ⟨h1, h2, h3⟩ := ft_bd T k
    cases hc : ftC (ft T k) (T k) with
    | true => simp only [ft, hc, if_true]; refine ⟨fun _ => by omega, by omega, fun h => by omega⟩
    | false =>
      have : 0 < k := by
        rcases Nat.eq_zero_or_pos k with h0 | h0
        · simp [ftC, h3 h0] at hc
        · exact h0
      simp only [ft, hc, Bool.false_eq_true, if_false]
      exact ⟨fun _ => h1 this, by omega, fun h => by omega⟩
def frB (T : Nat → Tm) (n : Nat) : Bool := bdB T n && decide (0 < n)
def frS (T : Nat → Tm) (n : Nat) : ByteArray := if frB T n = true then (T (ft T n).1.toNat).s else ⟨#[]⟩
def frN (T : Nat → Tm) (n : Nat) : Int := if frB T n = true then (ft T n).2.2 else 0
theorem ret_sib {s s' : ByteArray} {a a' : Int} {b b' : Bool} (h1 : s = s') (h2 : a = a') (h3 : b = b') : Ending.returned (.tuple #[.string s, .int .i64 a, .bool b]) = Ending.returned (.tuple #[.string s', .int .i64 a', .bool b']) := by subst h1 h2 h3; rfl
set_option maxRecDepth 100000 in
set_option maxHeartbeats 1600000 in
theorem FirstTurn_impl (T : Nat → Tm) (n lo hi : Nat) (v : Value) (w : World) (hv : SlT w lo hi v n T) (hhi : hi ≤ w.heap.size) (hf : tfits T n) :
    Calls Try.prog 56 #[v] w fun e w' => e = .returned (.tuple #[.string (frS T n), .int .i64 (frN T n), .bool (frB T n)]) ∧ Below w.heap.size w w' := by
  obtain ⟨A, cap, rfl, hcap⟩ := hv.open_
  cases hB : bdB T n with
  | false =>
    have HF : Hid (frB T n = false) := by show _ = _; simp [frB, hB]
    have HN : Hid (frN T n = 0) := by show _ = _; rw [frN, HF.out]; rfl
    have HS : Hid (frS T n = ⟨#[]⟩) := by show _ = _; rw [frS, HF.out]; rfl
    go_enter Try.func56, Try.ntmps56
    go_wp2_with (go_at_call 64; refine (isBoard_any T n lo hi _ _ hv hhi hf).mono ?_; rintro e w1 ⟨rfl, hb1⟩; have hz1 := hb1.size; (try (simp at hz1)); obtain ⟨hcw1, hfw1⟩ := bcell hb1; (try (have hy1 : w.heap.size < w1.heap.size := by omega)); (try (have hyy1 : w.heap.size + 1 < w1.heap.size := by omega)); (try (have hyyy1 : w.heap.size + 1 + 1 < w1.heap.size := by omega)))
    go_ret3
    exact ⟨ret_sib HS.out.symm HN.out.symm HF.out.symm, (by repeat (first | (with_reducible exact Below.refl _ _) | (with_reducible refine below_ov ?_ ?_) | (with_reducible refine Below.setCell ?_ ?_ _) | (with_reducible refine Below.alloc ?_ ?_ _) | (with_reducible refine Below.drew ?_) | (with_reducible refine below_drewN ?_ _) | (refine Below.trans ?_ (Below.mono ‹Below _ _ _› (by first | omega | (simp; done) | (simp; omega)))) | exact Below.refl _ _ | omega | (focus (simp; done)) | (focus (simp; omega))))⟩
  | true =>
    have hq := (bd_facts hB).1
    rcases Nat.eq_zero_or_pos n with h0 | h0
    · have HF : Hid (frB T n = false) := by show _ = _; simp [frB, hB]; omega
      have HN : Hid (frN T n = 0) := by show _ = _; rw [frN, HF.out]; rfl
      have HS : Hid (frS T n = ⟨#[]⟩) := by show _ = _; rw [frS, HF.out]; rfl
      have d0 : ((n : Int) == 0) = true := by simp; omega
      clear h0
      go_enter Try.func56, Try.ntmps56
      go_wp2_with fail
      refine (isBoard_any T n lo hi _ _ (hv.below (B := w.heap.size) (by repeat (first | (with_reducible exact Below.refl _ _) | (with_reducible refine below_ov ?_ ?_) | (with_reducible refine Below.setCell ?_ ?_ _) | (with_reducible refine Below.alloc ?_ ?_ _) | (with_reducible refine Below.drew ?_) | (with_reducible refine below_drewN ?_ _) | (refine Below.trans ?_ (Below.mono ‹Below _ _ _› (by first | omega | (simp; done) | (simp; omega)))) | exact Below.refl _ _ | omega | (focus (simp; done)) | (focus (simp; omega)))) hhi) hhi hf).mono ?_
      rintro e w1 ⟨rfl, hb1⟩
      have hz1 := hb1.size
      rw [hB]
      go_wp2_with fail
      go_ret3
      exact ⟨ret_sib HS.out.symm HN.out.symm HF.out.symm, (by repeat (first | (with_reducible exact Below.refl _ _) | (with_reducible refine below_ov ?_ ?_) | (with_reducible refine Below.setCell ?_ ?_ _) | (with_reducible refine Below.alloc ?_ ?_ _) | (with_reducible refine Below.drew ?_) | (with_reducible refine below_drewN ?_ _) | (refine Below.trans ?_ (Below.mono ‹Below _ _ _› (by first | omega | (simp; done) | (simp; omega)))) | exact Below.refl _ _ | omega | (focus (simp; done)) | (focus (simp; omega))))⟩
    · have HB := hide hB
      have d1 : ((n : Int) == 0) = false := by simp; omega
      have hfl : ∀ x y w, (Instr.field 47 (.agg #[x, y]) 0).run Try.prog w = .ok x w := fun _ _ _ => by kernel_rfl
      go_enter Try.func56, Try.ntmps56
      go_wp2_with fail
      refine (isBoard_any T n lo hi _ _ (hv.below (B := w.heap.size) (by repeat (first | (with_reducible exact Below.refl _ _) | (with_reducible refine below_ov ?_ ?_) | (with_reducible refine Below.setCell ?_ ?_ _) | (with_reducible refine Below.alloc ?_ ?_ _) | (with_reducible refine Below.drew ?_) | (with_reducible refine below_drewN ?_ _) | (refine Below.trans ?_ (Below.mono ‹Below _ _ _› (by first | omega | (simp; done) | (simp; omega)))) | exact Below.refl _ _ | omega | (focus (simp; done)) | (focus (simp; omega)))) hhi) hhi hf).mono ?_
      rintro e w1 ⟨rfl, hb1⟩
      have hz1 := hb1.size
      rw [hB]
      go_wp2_with fail
      go_loopw [5, 6, 7, 21] (fun a b c i wr => ∃ k : Nat, k ≤ n ∧ i = .int .i64 k ∧ a = .int .i64 (ft T k).1 ∧ b = .bool (ft T k).2.1 ∧ c = .int .i64 (ft T k).2.2 ∧ Below w.heap.size w wr) (fun _ _ _ i _ => n - (intOf i).toNat)
      case atStart => exact ⟨0, by omega, rfl, rfl, rfl, rfl, (by repeat (first | (with_reducible exact Below.refl _ _) | (with_reducible refine below_ov ?_ ?_) | (with_reducible refine Below.setCell ?_ ?_ _) | (with_reducible refine Below.alloc ?_ ?_ _) | (with_reducible refine Below.drew ?_) | (with_reducible refine below_drewN ?_ _) | (refine Below.trans ?_ (Below.mono ‹Below _ _ _› (by first | omega | (simp; done) | (simp; omega)))) | exact Below.refl _ _ | omega | (focus (simp; done)) | (focus (simp; omega))))⟩
      case round =>
        obtain ⟨k, hk, rfl, rfl, rfl, rfl, hb⟩ := hrel
        have hzr := hb.size
        by_cases hkn : k < n
        · obtain ⟨blk, off, ck, rfl, h1, h2, h3⟩ := (hv.below hb hhi).at_ (by omega) (by omega)
          have t0 := hide (h3 k hkn)
          have HK := hide ((bd_facts hB).2 k hkn).1
          have l0 : blk < wr.heap.size := by omega
          clear h3
          have HT : Hid (ft T (k + 1) = if ftC (ft T k) (T k) = true then ((k : Int), tmTOk (T k), ftT (T k)) else ft T k) := rfl
          cases e1 : tmTOk (T k) with
          | true =>
            go_wp2_with fail
            refine (turn_any (T k) blk (off + k * 4) lo hi _ _ (t0.out.below (B := wr.heap.size) (by repeat (first | (with_reducible exact Below.refl _ _) | (with_reducible refine below_ov ?_ ?_) | (with_reducible refine Below.setCell ?_ ?_ _) | (with_reducible refine Below.alloc ?_ ?_ _) | (with_reducible refine Below.drew ?_) | (with_reducible refine below_drewN ?_ _) | (refine Below.trans ?_ (Below.mono ‹Below _ _ _› (by first | omega | (simp; done) | (simp; omega)))) | exact Below.refl _ _ | omega | (focus (simp; done)) | (focus (simp; omega)))) (Nat.le_refl _)) HK.out).mono ?_
            rintro e w2 ⟨rfl, hb2⟩
            have hz2 := hb2.size
            rw [e1]
            have hF : ftT (T k) = tmTN (T k) := by simp [ftT, e1]
            rcases Int.lt_or_le (ft T k).1 0 with e2 | e2
            · have e3 : decide ((ft T k).1 < 0) = true := decide_eq_true e2
              go_wp2_with fail
              all_goals go_roundw
              all_goals first
                | (exact ⟨k + 1, by omega, by go_num, by ((simp [HT.out, ftC, *]) <;> rw [if_neg (by omega)] <;> simp [*]), by ((simp [HT.out, ftC, *]) <;> rw [if_neg (by omega)] <;> simp [*]), by ((simp [HT.out, ftC, *]) <;> rw [if_neg (by omega)] <;> simp [*]), (by repeat (first | (with_reducible exact Below.refl _ _) | (with_reducible refine below_ov ?_ ?_) | (with_reducible refine Below.setCell ?_ ?_ _) | (with_reducible refine Below.alloc ?_ ?_ _) | (with_reducible refine Below.drew ?_) | (with_reducible refine below_drewN ?_ _) | (refine Below.trans ?_ (Below.mono ‹Below _ _ _› (by first | omega | (simp; done) | (simp; omega)))) | exact Below.refl _ _ | omega | (focus (simp; done)) | (focus (simp; omega))))⟩)
                | (simp [intOf]; omega)
            · have e3 : decide ((ft T k).1 < 0) = false := decide_eq_false (by omega)
              have e4 : ¬ (ft T k).1 < 0 := by omega
              go_wp2_with fail
              all_goals go_roundw
              all_goals first
                | (exact ⟨k + 1, by omega, by go_num, by ((simp [HT.out, ftC, *]) <;> rw [if_neg (by omega)] <;> simp [*]), by ((simp [HT.out, ftC, *]) <;> rw [if_neg (by omega)] <;> simp [*]), by ((simp [HT.out, ftC, *]) <;> rw [if_neg (by omega)] <;> simp [*]), (by repeat (first | (with_reducible exact Below.refl _ _) | (with_reducible refine below_ov ?_ ?_) | (with_reducible refine Below.setCell ?_ ?_ _) | (with_reducible refine Below.alloc ?_ ?_ _) | (with_reducible refine Below.drew ?_) | (with_reducible refine below_drewN ?_ _) | (refine Below.trans ?_ (Below.mono ‹Below _ _ _› (by first | omega | (simp; done) | (simp; omega)))) | exact Below.refl _ _ | omega | (focus (simp; done)) | (focus (simp; omega))))⟩)
                | (simp [intOf]; omega)
          | false =>
            go_wp2_with fail
            refine (turn_any (T k) blk (off + k * 4) lo hi _ _ (t0.out.below (B := wr.heap.size) (by repeat (first | (with_reducible exact Below.refl _ _) | (with_reducible refine below_ov ?_ ?_) | (with_reducible refine Below.setCell ?_ ?_ _) | (with_reducible refine Below.alloc ?_ ?_ _) | (with_reducible refine Below.drew ?_) | (with_reducible refine below_drewN ?_ _) | (refine Below.trans ?_ (Below.mono ‹Below _ _ _› (by first | omega | (simp; done) | (simp; omega)))) | exact Below.refl _ _ | omega | (focus (simp; done)) | (focus (simp; omega)))) (Nat.le_refl _)) HK.out).mono ?_
            rintro e w2 ⟨rfl, hb2⟩
            have hz2 := hb2.size
            rw [e1]
            go_wp2_with fail
            refine (last_any (T k) blk (off + k * 4) lo hi _ _ (t0.out.below (B := wr.heap.size) (by repeat (first | (with_reducible exact Below.refl _ _) | (with_reducible refine below_ov ?_ ?_) | (with_reducible refine Below.setCell ?_ ?_ _) | (with_reducible refine Below.alloc ?_ ?_ _) | (with_reducible refine Below.drew ?_) | (with_reducible refine below_drewN ?_ _) | (refine Below.trans ?_ (Below.mono ‹Below _ _ _› (by first | omega | (simp; done) | (simp; omega)))) | exact Below.refl _ _ | omega | (focus (simp; done)) | (focus (simp; omega)))) (by first | omega | (simp; done) | (simp; omega))) HK.out).mono ?_
            rintro e w3 ⟨rfl, hb3⟩
            have hz3 := hb3.size
            have hF : ftT (T k) = (T k).lm := by simp [ftT, e1]
            rcases Int.lt_or_le (ft T k).1 0 with e2 | e2
            · have e3 : decide ((ft T k).1 < 0) = true := decide_eq_true e2
              go_wp2_with fail
              all_goals go_roundw
              all_goals first
                | (exact ⟨k + 1, by omega, by go_num, by ((simp [HT.out, ftC, *]) <;> rw [if_neg (by omega)] <;> simp [*]), by ((simp [HT.out, ftC, *]) <;> rw [if_neg (by omega)] <;> simp [*]), by ((simp [HT.out, ftC, *]) <;> rw [if_neg (by omega)] <;> simp [*]), (by repeat (first | (with_reducible exact Below.refl _ _) | (with_reducible refine below_ov ?_ ?_) | (with_reducible refine Below.setCell ?_ ?_ _) | (with_reducible refine Below.alloc ?_ ?_ _) | (with_reducible refine Below.drew ?_) | (with_reducible refine below_drewN ?_ _) | (refine Below.trans ?_ (Below.mono ‹Below _ _ _› (by first | omega | (simp; done) | (simp; omega)))) | exact Below.refl _ _ | omega | (focus (simp; done)) | (focus (simp; omega))))⟩)
                | (simp [intOf]; omega)
            · have e3 : decide ((ft T k).1 < 0) = false := decide_eq_false (by omega)
              have e4 : ¬ (ft T k).1 < 0 := by omega
              go_wp2_with fail
              all_goals go_roundw
              all_goals first
                | (exact ⟨k + 1, by omega, by go_num, by ((simp [HT.out, ftC, *]) <;> rw [if_neg (by omega)] <;> simp [*]), by ((simp [HT.out, ftC, *]) <;> rw [if_neg (by omega)] <;> simp [*]), by ((simp [HT.out, ftC, *]) <;> rw [if_neg (by omega)] <;> simp [*]), (by repeat (first | (with_reducible exact Below.refl _ _) | (with_reducible refine below_ov ?_ ?_) | (with_reducible refine Below.setCell ?_ ?_ _) | (with_reducible refine Below.alloc ?_ ?_ _) | (with_reducible refine Below.drew ?_) | (with_reducible refine below_drewN ?_ _) | (refine Below.trans ?_ (Below.mono ‹Below _ _ _› (by first | omega | (simp; done) | (simp; omega)))) | exact Below.refl _ _ | omega | (focus (simp; done)) | (focus (simp; omega))))⟩)
                | (simp [intOf]; omega)
        · obtain rfl : k = n := by omega
          obtain ⟨g1, g2, _⟩ := ft_bd T k
          have HE : Hid (frB T k = true) := by show _ = _; simp [frB, HB.out]; omega
          have HN : Hid (frN T k = (ft T k).2.2) := by show _ = _; rw [frN, if_pos HE.out]
          have HS : Hid (frS T k = (T (ft T k).1.toNat).s) := by show _ = _; rw [frS, if_pos HE.out]
          have g3 := g1 h0
          obtain ⟨blk, off, ck, rfl, h1, h2, h3⟩ := (hv.below hb hhi).at_ (by omega) (by omega)
          have q0 := (h3 (ft T k).1.toNat (by omega)).c0
          have q9 : (((ft T k).1.toNat : Nat) : Int) = (ft T k).1 := by omega
          have q8 : (ft T k).1.toNat < k := by omega
          have l0 : blk < wr.heap.size := by omega
          clear h3
          go_wp2_with fail
          go_ret3
          exact ⟨ret_sib HS.out.symm HN.out.symm HE.out.symm, (by repeat (first | (with_reducible exact Below.refl _ _) | (with_reducible refine below_ov ?_ ?_) | (with_reducible refine Below.setCell ?_ ?_ _) | (with_reducible refine Below.alloc ?_ ?_ _) | (with_reducible refine Below.drew ?_) | (with_reducible refine below_drewN ?_ _) | (refine Below.trans ?_ (Below.mono ‹Below _ _ _› (by first | omega | (simp; done) | (simp; omega)))) | exact Below.refl _ _ | omega | (focus (simp; done)) | (focus (simp; omega))))⟩

end Go.Proofs.Ytpakjmiallhgnaa
