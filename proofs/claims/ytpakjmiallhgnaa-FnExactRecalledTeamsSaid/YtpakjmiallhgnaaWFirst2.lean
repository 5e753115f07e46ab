/-
  Walks: the first team that must turn: the reference.
-/
import Derived.Test.YtpakjmiallhgnaaWFirst
import Derived.Test.YtpakjmiallhgnaaOTeam
namespace Go.Proofs.Ytpakjmiallhgnaa
set_option linter.unusedVariables false
set_option linter.unusedSimpArgs false
open Go.RowKit

/-- The name so far. -/
def fnm (T : Nat → Tm) (k : Nat) : ByteArray := if (ft T k).1 < 0 then ⟨#[]⟩ else (T (ft T k).1.toNat).s
theorem nameB_ne {T : Tm} (h : tmB T = true) : ¬ T.s.toList = [] := by
  have h1 := (tm_facts h).1
  intro h2
  simp only [nameB, Bool.and_eq_true, inB_iff] at h1
  have h3 : T.s.toList.length = T.s.size := by simp [ByteArray.toList_eq]
  rw [h2] at h3
  simp at h3
  omega
theorem fnm_succ (T : Nat → Tm) (k : Nat) : fnm T (k + 1) = if ftC (ft T k) (T k) = true then (T k).s else fnm T k := by
  unfold fnm
  simp only [ft]
  by_cases hc : ftC (ft T k) (T k) = true
  · simp only [hc, if_true]; rw [if_neg (by omega)]; rfl
  · simp only [hc]; simp
set_option maxRecDepth 100000 in
set_option maxHeartbeats 1600000 in
theorem FirstTurn_spec (T : Nat → Tm) (n lo hi : Nat) (v : Value) (w : World) (hv : SlT w lo hi v n T) (hhi : hi ≤ w.heap.size) (hf : tfits T n) :
    Calls Try.prog 57 #[v] w fun e w' => e = .returned (.tuple #[.string (frS T n), .int .i64 (frN T n), .bool (frB T n)]) ∧ Below w.heap.size w w' := by
  obtain ⟨A, cap, rfl, hcap⟩ := hv.open_
  cases hB : bdB T n with
  | false =>
    have HF : Hid (frB T n = false) := by show _ = _; simp [frB, hB]
    have HN : Hid (frN T n = 0) := by show _ = _; rw [frN, HF.out]; rfl
    have HS : Hid (frS T n = ⟨#[]⟩) := by show _ = _; rw [frS, HF.out]; rfl
    go_enter Try.func57, Try.ntmps57
    go_wp2_with (go_at_call 61; refine (enGood_any T n lo hi _ _ hv hhi hf).mono ?_; rintro e w1 ⟨rfl, hb1⟩; have hz1 := hb1.size; (try (simp at hz1)); obtain ⟨hcw1, hfw1⟩ := bcell hb1; (try (have hy1 : w.heap.size < w1.heap.size := by omega)); (try (have hyy1 : w.heap.size + 1 < w1.heap.size := by omega)); (try (have hyyy1 : w.heap.size + 1 + 1 < w1.heap.size := by omega)))
    go_ret3
    exact ⟨ret_sib HS.out.symm HN.out.symm HF.out.symm, (by repeat (first | (with_reducible exact Below.refl _ _) | (with_reducible refine below_ov ?_ ?_) | (with_reducible refine Below.setCell ?_ ?_ _) | (with_reducible refine Below.alloc ?_ ?_ _) | (with_reducible refine Below.drew ?_) | (with_reducible refine below_drewN ?_ _) | (refine Below.trans ?_ (Below.mono ‹Below _ _ _› (by first | omega | (simp; done) | (simp; omega)))) | exact Below.refl _ _ | omega | (focus (simp; done)) | (focus (simp; omega))))⟩
  | true =>
    have hq := (bd_facts hB).1
    rcases Nat.eq_zero_or_pos n with h0 | h0
    · have HF : Hid (frB T n = false) := by show _ = _; simp [frB, hB]; omega
      have HN : Hid (frN T n = 0) := by show _ = _; rw [frN, HF.out]; rfl
      have HS : Hid (frS T n = ⟨#[]⟩) := by show _ = _; rw [frS, HF.out]; rfl
      have d0 : ((n : Int) == 0) = true := by simp; omega
      clear h0
      go_enter Try.func57, Try.ntmps57
      go_wp2_with fail
      refine (enGood_any T n lo hi _ _ (hv.below (B := w.heap.size) (by repeat (first | (with_reducible exact Below.refl _ _) | (with_reducible refine below_ov ?_ ?_) | (with_reducible refine Below.setCell ?_ ?_ _) | (with_reducible refine Below.alloc ?_ ?_ _) | (with_reducible refine Below.drew ?_) | (with_reducible refine below_drewN ?_ _) | (refine Below.trans ?_ (Below.mono ‹Below _ _ _› (by first | omega | (simp; done) | (simp; omega)))) | exact Below.refl _ _ | omega | (focus (simp; done)) | (focus (simp; omega)))) hhi) hhi hf).mono ?_
      rintro e w1 ⟨rfl, hb1⟩
      have hz1 := hb1.size
      rw [hB]
      go_wp2_with fail
      go_ret3
      exact ⟨ret_sib HS.out.symm HN.out.symm HF.out.symm, (by repeat (first | (with_reducible exact Below.refl _ _) | (with_reducible refine below_ov ?_ ?_) | (with_reducible refine Below.setCell ?_ ?_ _) | (with_reducible refine Below.alloc ?_ ?_ _) | (with_reducible refine Below.drew ?_) | (with_reducible refine below_drewN ?_ _) | (refine Below.trans ?_ (Below.mono ‹Below _ _ _› (by first | omega | (simp; done) | (simp; omega)))) | exact Below.refl _ _ | omega | (focus (simp; done)) | (focus (simp; omega))))⟩
    · have HB := hide hB
      have d1 : ((n : Int) == 0) = false := by simp; omega
      have hfl : ∀ x y w, (Instr.field 47 (.agg #[x, y]) 0).run Try.prog w = .ok x w := fun _ _ _ => by kernel_rfl
      go_enter Try.func57, Try.ntmps57
      go_wp2_with fail
      refine (enGood_any T n lo hi _ _ (hv.below (B := w.heap.size) (by repeat (first | (with_reducible exact Below.refl _ _) | (with_reducible refine below_ov ?_ ?_) | (with_reducible refine Below.setCell ?_ ?_ _) | (with_reducible refine Below.alloc ?_ ?_ _) | (with_reducible refine Below.drew ?_) | (with_reducible refine below_drewN ?_ _) | (refine Below.trans ?_ (Below.mono ‹Below _ _ _› (by first | omega | (simp; done) | (simp; omega)))) | exact Below.refl _ _ | omega | (focus (simp; done)) | (focus (simp; omega)))) hhi) hhi hf).mono ?_
      rintro e w1 ⟨rfl, hb1⟩
      have hz1 := hb1.size
      rw [hB]
      go_wp2_with fail
      go_loopw [5, 6, 7, 24] (fun a b c i wr => ∃ k : Nat, k ≤ n ∧ i = .int .i64 k ∧ a = .string (fnm T k) ∧ b = .int .i64 (ft T k).2.2 ∧ c = .bool (!(ft T k).2.1) ∧ Below w.heap.size w wr) (fun _ _ _ i _ => n - (intOf i).toNat)
      case atStart => exact ⟨0, by omega, rfl, rfl, rfl, rfl, (by repeat (first | (with_reducible exact Below.refl _ _) | (with_reducible refine below_ov ?_ ?_) | (with_reducible refine Below.setCell ?_ ?_ _) | (with_reducible refine Below.alloc ?_ ?_ _) | (with_reducible refine Below.drew ?_) | (with_reducible refine below_drewN ?_ _) | (refine Below.trans ?_ (Below.mono ‹Below _ _ _› (by first | omega | (simp; done) | (simp; omega)))) | exact Below.refl _ _ | omega | (focus (simp; done)) | (focus (simp; omega))))⟩
      case round =>
        obtain ⟨k, hk, rfl, rfl, rfl, rfl, hb⟩ := hrel
        have hzr := hb.size
        by_cases hkn : k < n
        · obtain ⟨blk, off, ck, rfl, h1, h2, h3⟩ := (hv.below hb hhi).at_ (by omega) (by omega)
          have t0 := hide (h3 k hkn)
          have q0 := (h3 k hkn).c0
          have qa := (h3 k hkn).c1
          have qb := (h3 k hkn).c2
          have qc := (h3 k hkn).c3
          have l0 : blk < wr.heap.size := by omega
          obtain ⟨Ak, ckk, ek, _, _⟩ := t0.out.sl.open_
          have sk := t0.out.sl
          rw [ek] at qc sk
          have SK := hide sk
          clear ek sk h3
          have HK := hide ((bd_facts hB).2 k hkn).1
          have HT : Hid (ft T (k + 1) = if ftC (ft T k) (T k) = true then ((k : Int), tmTOk (T k), ftT (T k)) else ft T k) := rfl
          have HM : Hid (fnm T (k + 1) = if ftC (ft T k) (T k) = true then (T k).s else fnm T k) := fnm_succ T k
          go_wp2_with fail
          refine (enTurn_any (T k) lo hi _ _ (SK.out.below (B := wr.heap.size) (by repeat (first | (with_reducible exact Below.refl _ _) | (with_reducible refine below_ov ?_ ?_) | (with_reducible refine Below.setCell ?_ ?_ _) | (with_reducible refine Below.alloc ?_ ?_ _) | (with_reducible refine Below.drew ?_) | (with_reducible refine below_drewN ?_ _) | (refine Below.trans ?_ (Below.mono ‹Below _ _ _› (by first | omega | (simp; done) | (simp; omega)))) | exact Below.refl _ _ | omega | (focus (simp; done)) | (focus (simp; omega)))) (by omega)) (by first | omega | (simp; done) | (simp; omega)) HK.out).mono ?_
          rintro e w2 ⟨rfl, hb2⟩
          have hz2 := hb2.size
          (try (simp at hz2))
          have c0 : w2.cell? ⟨wr.heap.size, 0, none⟩ = some (.string (T k).s) := (hb2.cell (p := ⟨wr.heap.size, 0, none⟩) (by simp)).trans (World.cell?_alloc_new _ _ _ _)
          have c1 : w2.cell? ⟨wr.heap.size, 1, none⟩ = some (.int .i64 (T k).v) := (hb2.cell (p := ⟨wr.heap.size, 1, none⟩) (by simp)).trans (World.cell?_alloc_new _ _ _ _)
          have c2 : w2.cell? ⟨wr.heap.size, 2, none⟩ = some (.int .i64 (T k).y) := (hb2.cell (p := ⟨wr.heap.size, 2, none⟩) (by simp)).trans (World.cell?_alloc_new _ _ _ _)
          have c3 : w2.cell? ⟨wr.heap.size, 3, none⟩ = some (.slice Ak (T k).n ckk) := (hb2.cell (p := ⟨wr.heap.size, 3, none⟩) (by simp)).trans (World.cell?_alloc_new _ _ _ _)
          have l2 : wr.heap.size < w2.heap.size := by omega
          cases e1 : tmTOk (T k) with
          | true =>
            have hF : ftT (T k) = tmTN (T k) := by simp [ftT, e1]
            rcases Int.lt_or_le (ft T k).1 0 with e2 | e2
            · have hn : (fnm T k).toList = [] := by rw [fnm, if_pos e2]; kernel_rfl
              have hi : (fnm T k).toList.isEmpty = true := by rw [hn]; rfl
              go_wp2_with fail
              all_goals go_roundw
              all_goals first
                | (exact ⟨k + 1, by omega, by go_num, by ((simp [HM.out, ftC, *]) <;> first | (rw [if_neg (by omega)] <;> simp [*] <;> done) | (intros; exfalso; omega)), by ((simp [HT.out, ftC, *]) <;> first | (rw [if_neg (by omega)] <;> simp [*] <;> done) | (intros; exfalso; omega)), by ((simp [HT.out, ftC, *]) <;> first | (rw [if_neg (by omega)] <;> simp [*] <;> done) | (intros; exfalso; omega)), (by repeat (first | (with_reducible exact Below.refl _ _) | (with_reducible refine below_ov ?_ ?_) | (with_reducible refine Below.setCell ?_ ?_ _) | (with_reducible refine Below.alloc ?_ ?_ _) | (with_reducible refine Below.drew ?_) | (with_reducible refine below_drewN ?_ _) | (refine Below.trans ?_ (Below.mono ‹Below _ _ _› (by first | omega | (simp; done) | (simp; omega)))) | exact Below.refl _ _ | omega | (focus (simp; done)) | (focus (simp; omega))))⟩)
                | (simp [intOf]; omega)
            · have e4 : ¬ (ft T k).1 < 0 := by omega
              have hn : ¬ (fnm T k).toList = [] := by
                rw [fnm, if_neg e4]
                exact nameB_ne ((bd_facts HB.out).2 _ (by have := (ft_bd T k).2.1; omega)).1
              have hi : (fnm T k).toList.isEmpty = false := by simp [hn]
              go_wp2_with fail
              all_goals go_roundw
              all_goals first
                | (exact ⟨k + 1, by omega, by go_num, by ((simp [HM.out, ftC, *]) <;> first | (rw [if_neg (by omega)] <;> simp [*] <;> done) | (intros; exfalso; omega)), by ((simp [HT.out, ftC, *]) <;> first | (rw [if_neg (by omega)] <;> simp [*] <;> done) | (intros; exfalso; omega)), by ((simp [HT.out, ftC, *]) <;> first | (rw [if_neg (by omega)] <;> simp [*] <;> done) | (intros; exfalso; omega)), (by repeat (first | (with_reducible exact Below.refl _ _) | (with_reducible refine below_ov ?_ ?_) | (with_reducible refine Below.setCell ?_ ?_ _) | (with_reducible refine Below.alloc ?_ ?_ _) | (with_reducible refine Below.drew ?_) | (with_reducible refine below_drewN ?_ _) | (refine Below.trans ?_ (Below.mono ‹Below _ _ _› (by first | omega | (simp; done) | (simp; omega)))) | exact Below.refl _ _ | omega | (focus (simp; done)) | (focus (simp; omega))))⟩)
                | (simp [intOf]; omega)
          | false =>
            have hF : ftT (T k) = (T k).lm := by simp [ftT, e1]
            go_wp2_with fail
            refine (enLast_any (T k) lo hi _ _ (SK.out.below (B := wr.heap.size) (by repeat (first | (with_reducible exact Below.refl _ _) | (with_reducible refine below_ov ?_ ?_) | (with_reducible refine Below.setCell ?_ ?_ _) | (with_reducible refine Below.alloc ?_ ?_ _) | (with_reducible refine Below.drew ?_) | (with_reducible refine below_drewN ?_ _) | (refine Below.trans ?_ (Below.mono ‹Below _ _ _› (by first | omega | (simp; done) | (simp; omega)))) | exact Below.refl _ _ | omega | (focus (simp; done)) | (focus (simp; omega)))) (by omega)) (by first | omega | (simp; done) | (simp; omega)) HK.out).mono ?_
            rintro e w3 ⟨rfl, hb3⟩
            have hz3 := hb3.size
            have d0 := (hb3.cell (p := ⟨wr.heap.size, 0, none⟩) l2).trans c0
            have d1 := (hb3.cell (p := ⟨wr.heap.size, 1, none⟩) l2).trans c1
            have d2 := (hb3.cell (p := ⟨wr.heap.size, 2, none⟩) l2).trans c2
            have d3 := (hb3.cell (p := ⟨wr.heap.size, 3, none⟩) l2).trans c3
            have l3 : wr.heap.size < w3.heap.size := by omega
            rcases Int.lt_or_le (ft T k).1 0 with e2 | e2
            · have hn : (fnm T k).toList = [] := by rw [fnm, if_pos e2]; kernel_rfl
              have hi : (fnm T k).toList.isEmpty = true := by rw [hn]; rfl
              go_wp2_with fail
              all_goals go_roundw
              all_goals first
                | (exact ⟨k + 1, by omega, by go_num, by ((simp [HM.out, ftC, *]) <;> first | (rw [if_neg (by omega)] <;> simp [*] <;> done) | (intros; exfalso; omega)), by ((simp [HT.out, ftC, *]) <;> first | (rw [if_neg (by omega)] <;> simp [*] <;> done) | (intros; exfalso; omega)), by ((simp [HT.out, ftC, *]) <;> first | (rw [if_neg (by omega)] <;> simp [*] <;> done) | (intros; exfalso; omega)), (by repeat (first | (with_reducible exact Below.refl _ _) | (with_reducible refine below_ov ?_ ?_) | (with_reducible refine Below.setCell ?_ ?_ _) | (with_reducible refine Below.alloc ?_ ?_ _) | (with_reducible refine Below.drew ?_) | (with_reducible refine below_drewN ?_ _) | (refine Below.trans ?_ (Below.mono ‹Below _ _ _› (by first | omega | (simp; done) | (simp; omega)))) | exact Below.refl _ _ | omega | (focus (simp; done)) | (focus (simp; omega))))⟩)
                | (simp [intOf]; omega)
            · have e4 : ¬ (ft T k).1 < 0 := by omega
              have hn : ¬ (fnm T k).toList = [] := by
                rw [fnm, if_neg e4]
                exact nameB_ne ((bd_facts HB.out).2 _ (by have := (ft_bd T k).2.1; omega)).1
              have hi : (fnm T k).toList.isEmpty = false := by simp [hn]
              go_wp2_with fail
              all_goals go_roundw
              all_goals first
                | (exact ⟨k + 1, by omega, by go_num, by ((simp [HM.out, ftC, *]) <;> first | (rw [if_neg (by omega)] <;> simp [*] <;> done) | (intros; exfalso; omega)), by ((simp [HT.out, ftC, *]) <;> first | (rw [if_neg (by omega)] <;> simp [*] <;> done) | (intros; exfalso; omega)), by ((simp [HT.out, ftC, *]) <;> first | (rw [if_neg (by omega)] <;> simp [*] <;> done) | (intros; exfalso; omega)), (by repeat (first | (with_reducible exact Below.refl _ _) | (with_reducible refine below_ov ?_ ?_) | (with_reducible refine Below.setCell ?_ ?_ _) | (with_reducible refine Below.alloc ?_ ?_ _) | (with_reducible refine Below.drew ?_) | (with_reducible refine below_drewN ?_ _) | (refine Below.trans ?_ (Below.mono ‹Below _ _ _› (by first | omega | (simp; done) | (simp; omega)))) | exact Below.refl _ _ | omega | (focus (simp; done)) | (focus (simp; omega))))⟩)
                | (simp [intOf]; omega)
        · obtain rfl : k = n := by omega
          obtain ⟨g1, g2, _⟩ := ft_bd T k
          have HE : Hid (frB T k = true) := by show _ = _; simp [frB, HB.out]; omega
          have HN : Hid (frN T k = (ft T k).2.2) := by show _ = _; rw [frN, if_pos HE.out]
          have g3 := g1 h0
          have HS : Hid (frS T k = fnm T k) := by show _ = _; rw [frS, if_pos HE.out, fnm, if_neg (by omega)]
          go_wp2_with fail
          go_ret3
          exact ⟨ret_sib HS.out.symm HN.out.symm HE.out.symm, (by repeat (first | (with_reducible exact Below.refl _ _) | (with_reducible refine below_ov ?_ ?_) | (with_reducible refine Below.setCell ?_ ?_ _) | (with_reducible refine Below.alloc ?_ ?_ _) | (with_reducible refine Below.drew ?_) | (with_reducible refine below_drewN ?_ _) | (refine Below.trans ?_ (Below.mono ‹Below _ _ _› (by first | omega | (simp; done) | (simp; omega)))) | exact Below.refl _ _ | omega | (focus (simp; done)) | (focus (simp; omega))))⟩

end Go.Proofs.Ytpakjmiallhgnaa
