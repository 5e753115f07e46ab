/-
  Texts of this proof, one behind the other (part 11).
-/
import Derived.Test.YtnfhgnibjebmlaaQ10
/-
  Walks: the first team that must turn: the reference.-/
namespace Go.Proofs.Ytnfhgnibjebmlaa
set_option linter.unusedVariables false
set_option linter.unusedSimpArgs false
open Go.RowKit

/-- The name so far. -/
def fnm (T : Nat → Tm) (k : Nat) : ByteArray := if (ft T k).1 < 0 then ⟨#[]⟩ else (T (ft T k).1.toNat).s
theorem nameB_ne {T : Tm} (h : tmB T = true) : ¬ T.s.toList = [] := by
  have h1 := (tm_facts h).1
  intro h2
  simp only [nameB, Bool.and_eq_true, inB_iff] at h1
  have h3 : T.s.toList.length = T.s.size := by simp [ByteArray.toList_eq]
  rw [h2] at h3
  simp at h3
  omega
theorem fnm_succ (T : Nat → Tm) (k : Nat) : fnm T (k + 1) = if ftC (ft T k) (T k) = true then (T k).s else fnm T k := by
  unfold fnm
  simp only [ft]
  by_cases hc : ftC (ft T k) (T k) = true
  · simp only [hc, if_true]; rw [if_neg (by omega)]; rfl
  · simp only [hc]; simp
set_option maxRecDepth 100000 in
set_option maxHeartbeats 1600000 in
theorem FirstTurn_spec (T : Nat → Tm) (n lo hi : Nat) (v : Value) (w : World) (hv : SlT w lo hi v n T) (hhi : hi ≤ w.heap.size) (hf : tfits T n) :
    Calls Try.prog 22 #[v] w fun e w' => e = .returned (.tuple #[.string (frS T n), .int .i64 (frN T n), .bool (frB T n)]) ∧ Below w.heap.size w w' := by
  obtain ⟨A, cap, rfl, hcap⟩ := hv.open_
  cases hB : bdB T n with
  | false =>
    have HF : Hid (frB T n = false) := by show _ = _; simp [frB, hB]
    have HN : Hid (frN T n = 0) := by show _ = _; rw [frN, HF.out]; rfl
    have HS : Hid (frS T n = ⟨#[]⟩) := by show _ = _; rw [frS, HF.out]; rfl
    go_enter Try.func22, Try.ntmps22
    go_wp2_with (go_at_call 40; refine (enGood_any T n lo hi _ _ hv hhi hf).mono ?_; rintro e w1 ⟨rfl, hb1⟩; have hz1 := hb1.size; (try (simp at hz1)); obtain ⟨hcw1, hfw1⟩ := bcell hb1; (try (have hy1 : w.heap.size < w1.heap.size := by omega)); (try (have hyy1 : w.heap.size + 1 < w1.heap.size := by omega)); (try (have hyyy1 : w.heap.size + 1 + 1 < w1.heap.size := by omega)))
    go_ret3
    exact ⟨ret_sib HS.out.symm HN.out.symm HF.out.symm, (by repeat (first | (with_reducible exact Below.refl _ _) | (with_reducible refine below_ov ?_ ?_) | (with_reducible refine Below.setCell ?_ ?_ _) | (with_reducible refine Below.alloc ?_ ?_ _) | (with_reducible refine Below.drew ?_) | (with_reducible refine below_drewN ?_ _) | (refine Below.trans ?_ (Below.mono ‹Below _ _ _› (by first | omega | (simp; done) | (simp; omega)))) | exact Below.refl _ _ | omega | (focus (simp; done)) | (focus (simp; omega))))⟩
  | true =>
    have hq := (bd_facts hB).1
    rcases Nat.eq_zero_or_pos n with h0 | h0
    · have HF : Hid (frB T n = false) := by show _ = _; simp [frB, hB]; omega
      have HN : Hid (frN T n = 0) := by show _ = _; rw [frN, HF.out]; rfl
      have HS : Hid (frS T n = ⟨#[]⟩) := by show _ = _; rw [frS, HF.out]; rfl
      have d0 : ((n : Int) == 0) = true := by simp; omega
      clear h0
      go_enter Try.func22, Try.ntmps22
      go_wp2_with fail
      refine (enGood_any T n lo hi _ _ (hv.below (B := w.heap.size) (by repeat (first | (with_reducible exact Below.refl _ _) | (with_reducible refine below_ov ?_ ?_) | (with_reducible refine Below.setCell ?_ ?_ _) | (with_reducible refine Below.alloc ?_ ?_ _) | (with_reducible refine Below.drew ?_) | (with_reducible refine below_drewN ?_ _) | (refine Below.trans ?_ (Below.mono ‹Below _ _ _› (by first | omega | (simp; done) | (simp; omega)))) | exact Below.refl _ _ | omega | (focus (simp; done)) | (focus (simp; omega)))) hhi) hhi hf).mono ?_
      rintro e w1 ⟨rfl, hb1⟩
      have hz1 := hb1.size
      rw [hB]
      go_wp2_with fail
      go_ret3
      exact ⟨ret_sib HS.out.symm HN.out.symm HF.out.symm, (by repeat (first | (with_reducible exact Below.refl _ _) | (with_reducible refine below_ov ?_ ?_) | (with_reducible refine Below.setCell ?_ ?_ _) | (with_reducible refine Below.alloc ?_ ?_ _) | (with_reducible refine Below.drew ?_) | (with_reducible refine below_drewN ?_ _) | (refine Below.trans ?_ (Below.mono ‹Below _ _ _› (by first | omega | (simp; done) | (simp; omega)))) | exact Below.refl _ _ | omega | (focus (simp; done)) | (focus (simp; omega))))⟩
    · have HB := hide hB
      have d1 : ((n : Int) == 0) = false := by simp; omega
      have hfl : ∀ x y w, (Instr.field 56 (.agg #[x, y]) 0).run Try.prog w = .ok x w := fun _ _ _ => by kernel_rfl
      go_enter Try.func22, Try.ntmps22
      go_wp2_with fail
      refine (enGood_any T n lo hi _ _ (hv.below (B := w.heap.size) (by repeat (first | (with_reducible exact Below.refl _ _) | (with_reducible refine below_ov ?_ ?_) | (with_reducible refine Below.setCell ?_ ?_ _) | (with_reducible refine Below.alloc ?_ ?_ _) | (with_reducible refine Below.drew ?_) | (with_reducible refine below_drewN ?_ _) | (refine Below.trans ?_ (Below.mono ‹Below _ _ _› (by first | omega | (simp; done) | (simp; omega)))) | exact Below.refl _ _ | omega | (focus (simp; done)) | (focus (simp; omega)))) hhi) hhi hf).mono ?_
      rintro e w1 ⟨rfl, hb1⟩
      have hz1 := hb1.size
      rw [hB]
      go_wp2_with fail
      go_loopw [5, 6, 7, 24] (fun a b c i wr => ∃ k : Nat, k ≤ n ∧ i = .int .i64 k ∧ a = .string (fnm T k) ∧ b = .int .i64 (ft T k).2.2 ∧ c = .bool (!(ft T k).2.1) ∧ Below w.heap.size w wr) (fun _ _ _ i _ => n - (intOf i).toNat)
      case atStart => exact ⟨0, by omega, rfl, rfl, rfl, rfl, (by repeat (first | (with_reducible exact Below.refl _ _) | (with_reducible refine below_ov ?_ ?_) | (with_reducible refine Below.setCell ?_ ?_ _) | (with_reducible refine Below.alloc ?_ ?_ _) | (with_reducible refine Below.drew ?_) | (with_reducible refine below_drewN ?_ _) | (refine Below.trans ?_ (Below.mono ‹Below _ _ _› (by first | omega | (simp; done) | (simp; omega)))) | exact Below.refl _ _ | omega | (focus (simp; done)) | (focus (simp; omega))))⟩
      case round =>
        obtain ⟨k, hk, rfl, rfl, rfl, rfl, hb⟩ := hrel
        have hzr := hb.size
        by_cases hkn : k < n
        · obtain ⟨blk, off, ck, rfl, h1, h2, h3⟩ := (hv.below hb hhi).at_ (by omega) (by omega)
          have t0 := hide (h3 k hkn)
          have q0 := (h3 k hkn).c0
          have qa := (h3 k hkn).c1
          have qb := (h3 k hkn).c2
          have qc := (h3 k hkn).c3
          have l0 : blk < wr.heap.size := by omega
          obtain ⟨Ak, ckk, ek, _, _⟩ := t0.out.sl.open_
          have sk := t0.out.sl
          rw [ek] at qc sk
          have SK := hide sk
          clear ek sk h3
          have HK := hide ((bd_facts hB).2 k hkn).1
          have HT : Hid (ft T (k + 1) = if ftC (ft T k) (T k) = true then ((k : Int), tmTOk (T k), ftT (T k)) else ft T k) := rfl
          have HM : Hid (fnm T (k + 1) = if ftC (ft T k) (T k) = true then (T k).s else fnm T k) := fnm_succ T k
          go_wp2_with fail
          refine (enTurn_any (T k) lo hi _ _ (SK.out.below (B := wr.heap.size) (by repeat (first | (with_reducible exact Below.refl _ _) | (with_reducible refine below_ov ?_ ?_) | (with_reducible refine Below.setCell ?_ ?_ _) | (with_reducible refine Below.alloc ?_ ?_ _) | (with_reducible refine Below.drew ?_) | (with_reducible refine below_drewN ?_ _) | (refine Below.trans ?_ (Below.mono ‹Below _ _ _› (by first | omega | (simp; done) | (simp; omega)))) | exact Below.refl _ _ | omega | (focus (simp; done)) | (focus (simp; omega)))) (by omega)) (by first | omega | (simp; done) | (simp; omega)) HK.out).mono ?_
          rintro e w2 ⟨rfl, hb2⟩
          have hz2 := hb2.size
          (try (simp at hz2))
          have c0 : w2.cell? ⟨wr.heap.size, 0, none⟩ = some (.string (T k).s) := (hb2.cell (p := ⟨wr.heap.size, 0, none⟩) (by simp)).trans (World.cell?_alloc_new _ _ _ _)
          have c1 : w2.cell? ⟨wr.heap.size, 1, none⟩ = some (.int .i64 (T k).v) := (hb2.cell (p := ⟨wr.heap.size, 1, none⟩) (by simp)).trans (World.cell?_alloc_new _ _ _ _)
          have c2 : w2.cell? ⟨wr.heap.size, 2, none⟩ = some (.int .i64 (T k).y) := (hb2.cell (p := ⟨wr.heap.size, 2, none⟩) (by simp)).trans (World.cell?_alloc_new _ _ _ _)
          have c3 : w2.cell? ⟨wr.heap.size, 3, none⟩ = some (.slice Ak (T k).n ckk) := (hb2.cell (p := ⟨wr.heap.size, 3, none⟩) (by simp)).trans (World.cell?_alloc_new _ _ _ _)
          have l2 : wr.heap.size < w2.heap.size := by omega
          cases e1 : tmTOk (T k) with
          | true =>
            have hF : ftT (T k) = tmTN (T k) := by simp [ftT, e1]
            rcases Int.lt_or_le (ft T k).1 0 with e2 | e2
            · have hn : (fnm T k).toList = [] := by rw [fnm, if_pos e2]; kernel_rfl
              have hi : (fnm T k).toList.isEmpty = true := by rw [hn]; rfl
              go_wp2_with fail
              all_goals go_roundw
              all_goals first
                | (exact ⟨k + 1, by omega, by go_num, by ((simp [HM.out, ftC, *]) <;> first | (rw [if_neg (by omega)] <;> simp [*] <;> done) | (intros; exfalso; omega)), by ((simp [HT.out, ftC, *]) <;> first | (rw [if_neg (by omega)] <;> simp [*] <;> done) | (intros; exfalso; omega)), by ((simp [HT.out, ftC, *]) <;> first | (rw [if_neg (by omega)] <;> simp [*] <;> done) | (intros; exfalso; omega)), (by repeat (first | (with_reducible exact Below.refl _ _) | (with_reducible refine below_ov ?_ ?_) | (with_reducible refine Below.setCell ?_ ?_ _) | (with_reducible refine Below.alloc ?_ ?_ _) | (with_reducible refine Below.drew ?_) | (with_reducible refine below_drewN ?_ _) | (refine Below.trans ?_ (Below.mono ‹Below _ _ _› (by first | omega | (simp; done) | (simp; omega)))) | exact Below.refl _ _ | omega | (focus (simp; done)) | (focus (simp; omega))))⟩)
                | (simp [intOf]; omega)
            · have e4 : ¬ (ft T k).1 < 0 := by omega
              have hn : ¬ (fnm T k).toList = [] := by
                rw [fnm, if_neg e4]
                exact nameB_ne ((bd_facts HB.out).2 _ (by have := (ft_bd T k).2.1; omega)).1
              have hi : (fnm T k).toList.isEmpty = false := by simp [hn]
              go_wp2_with fail
              all_goals go_roundw
              all_goals first
                | (exact ⟨k + 1, by omega, by go_num, by ((simp [HM.out, ftC, *]) <;> first | (rw [if_neg (by omega)] <;> simp [*] <;> done) | (intros; exfalso; omega)), by ((simp [HT.out, ftC, *]) <;> first | (rw [if_neg (by omega)] <;> simp [*] <;> done) | (intros; exfalso; omega)), by ((simp [HT.out, ftC, *]) <;> first | (rw [if_neg (by omega)] <;> simp [*] <;> done) | (intros; exfalso; omega)), (by repeat (first | (with_reducible exact Below.refl _ _) | (with_reducible refine below_ov ?_ ?_) | (with_reducible refine Below.setCell ?_ ?_ _) | (with_reducible refine Below.alloc ?_ ?_ _) | (with_reducible refine Below.drew ?_) | (with_reducible refine below_drewN ?_ _) | (refine Below.trans ?_ (Below.mono ‹Below _ _ _› (by first | omega | (simp; done) | (simp; omega)))) | exact Below.refl _ _ | omega | (focus (simp; done)) | (focus (simp; omega))))⟩)
                | (simp [intOf]; omega)
          | false =>
            have hF : ftT (T k) = (T k).lm := by simp [ftT, e1]
            go_wp2_with fail
            refine (enLast_any (T k) lo hi _ _ (SK.out.below (B := wr.heap.size) (by repeat (first | (with_reducible exact Below.refl _ _) | (with_reducible refine below_ov ?_ ?_) | (with_reducible refine Below.setCell ?_ ?_ _) | (with_reducible refine Below.alloc ?_ ?_ _) | (with_reducible refine Below.drew ?_) | (with_reducible refine below_drewN ?_ _) | (refine Below.trans ?_ (Below.mono ‹Below _ _ _› (by first | omega | (simp; done) | (simp; omega)))) | exact Below.refl _ _ | omega | (focus (simp; done)) | (focus (simp; omega)))) (by omega)) (by first | omega | (simp; done) | (simp; omega)) HK.out).mono ?_
            rintro e w3 ⟨rfl, hb3⟩
            have hz3 := hb3.size
            have d0 := (hb3.cell (p := ⟨wr.heap.size, 0, none⟩) l2).trans c0
            have d1 := (hb3.cell (p := ⟨wr.heap.size, 1, none⟩) l2).trans c1
            have d2 := (hb3.cell (p := ⟨wr.heap.size, 2, none⟩) l2).trans c2
            have d3 := (hb3.cell (p := ⟨wr.heap.size, 3, none⟩) l2).trans c3
            have l3 : wr.heap.size < w3.heap.size := by omega
            rcases Int.lt_or_le (ft T k).1 0 with e2 | e2
            · have hn : (fnm T k).toList = [] := by rw [fnm, if_pos e2]; kernel_rfl
              have hi : (fnm T k).toList.isEmpty = true := by rw [hn]; rfl
              go_wp2_with fail
              all_goals go_roundw
              all_goals first
                | (exact ⟨k + 1, by omega, by go_num, by ((simp [HM.out, ftC, *]) <;> first | (rw [if_neg (by omega)] <;> simp [*] <;> done) | (intros; exfalso; omega)), by ((simp [HT.out, ftC, *]) <;> first | (rw [if_neg (by omega)] <;> simp [*] <;> done) | (intros; exfalso; omega)), by ((simp [HT.out, ftC, *]) <;> first | (rw [if_neg (by omega)] <;> simp [*] <;> done) | (intros; exfalso; omega)), (by repeat (first | (with_reducible exact Below.refl _ _) | (with_reducible refine below_ov ?_ ?_) | (with_reducible refine Below.setCell ?_ ?_ _) | (with_reducible refine Below.alloc ?_ ?_ _) | (with_reducible refine Below.drew ?_) | (with_reducible refine below_drewN ?_ _) | (refine Below.trans ?_ (Below.mono ‹Below _ _ _› (by first | omega | (simp; done) | (simp; omega)))) | exact Below.refl _ _ | omega | (focus (simp; done)) | (focus (simp; omega))))⟩)
                | (simp [intOf]; omega)
            · have e4 : ¬ (ft T k).1 < 0 := by omega
              have hn : ¬ (fnm T k).toList = [] := by
                rw [fnm, if_neg e4]
                exact nameB_ne ((bd_facts HB.out).2 _ (by have := (ft_bd T k).2.1; omega)).1
              have hi : (fnm T k).toList.isEmpty = false := by simp [hn]
              go_wp2_with fail
              all_goals go_roundw
              all_goals first
                | (exact ⟨k + 1, by omega, by go_num, by ((simp [HM.out, ftC, *]) <;> first | (rw [if_neg (by omega)] <;> simp [*] <;> done) | (intros; exfalso; omega)), by ((simp [HT.out, ftC, *]) <;> first | (rw [if_neg (by omega)] <;> simp [*] <;> done) | (intros; exfalso; omega)), by ((simp [HT.out, ftC, *]) <;> first | (rw [if_neg (by omega)] <;> simp [*] <;> done) | (intros; exfalso; omega)), (by repeat (first | (with_reducible exact Below.refl _ _) | (with_reducible refine below_ov ?_ ?_) | (with_reducible refine Below.setCell ?_ ?_ _) | (with_reducible refine Below.alloc ?_ ?_ _) | (with_reducible refine Below.drew ?_) | (with_reducible refine below_drewN ?_ _) | (refine Below.trans ?_ (Below.mono ‹Below _ _ _› (by first | omega | (simp; done) | (simp; omega)))) | exact Below.refl _ _ | omega | (focus (simp; done)) | (focus (simp; omega))))⟩)
                | (simp [intOf]; omega)
        · obtain rfl : k = n := by omega
          obtain ⟨g1, g2, _⟩ := ft_bd T k
          have HE : Hid (frB T k = true) := by show _ = _; simp [frB, HB.out]; omega
          have HN : Hid (frN T k = (ft T k).2.2) := by show _ = _; rw [frN, if_pos HE.out]
          have g3 := g1 h0
          have HS : Hid (frS T k = fnm T k) := by show _ = _; rw [frS, if_pos HE.out, fnm, if_neg (by omega)]
          go_wp2_with fail
          go_ret3
          exact ⟨ret_sib HS.out.symm HN.out.symm HE.out.symm, (by repeat (first | (with_reducible exact Below.refl _ _) | (with_reducible refine below_ov ?_ ?_) | (with_reducible refine Below.setCell ?_ ?_ _) | (with_reducible refine Below.alloc ?_ ?_ _) | (with_reducible refine Below.drew ?_) | (with_reducible refine below_drewN ?_ _) | (refine Below.trans ?_ (Below.mono ‹Below _ _ _› (by first | omega | (simp; done) | (simp; omega)))) | exact Below.refl _ _ | omega | (focus (simp; done)) | (focus (simp; omega))))⟩

end Go.Proofs.Ytnfhgnibjebmlaa

/-
  Walks: the laws' own helpers for String: copies, comparisons, sizes (printed by gen_data.py).-/
namespace Go.Proofs.Ytnfhgnibjebmlaa
set_option linter.unusedVariables false
set_option linter.unusedSimpArgs false
open Go.RowKit


end Go.Proofs.Ytnfhgnibjebmlaa

/-
  Walks: the teams that are recalled.-/
namespace Go.Proofs.Ytnfhgnibjebmlaa
set_option linter.unusedVariables false
set_option linter.unusedSimpArgs false
open Go.RowKit

def rcOk (T : Nat → Tm) (n : Nat) (m : Int) : Bool := bdB T n && inB m 0 600
def rcP (T : Nat → Tm) (m : Int) (i : Nat) : Bool := (stB (T i) m).toList == [116, 117, 114, 110]
def rcQ (T : Nat → Tm) (n : Nat) (m : Int) (i : Nat) : Bool := rcOk T n m && rcP T m i
theorem rcQ_no {T : Nat → Tm} {n : Nat} {m : Int} (h : rcOk T n m = false) : ∀ k, flt (rcQ T n m) k = []
  | 0 => rfl
  | k + 1 => by rw [flt_no (by simp [rcQ, h]), rcQ_no h k]
theorem rcQ_at {T : Nat → Tm} {n : Nat} {m : Int} {i : Nat} (h : rcOk T n m = true) : rcQ T n m i = rcP T m i := by simp [rcQ, h]
def StrRes (f : Nat → ByteArray) (p : Nat → Bool) (n : Nat) (ok : Bool) (w : World) (e : Ending) (w' : World) : Prop := ∃ v', e = .returned (.tuple #[v', .bool ok]) ∧ Own w' w.heap.size w'.heap.size 9 1 v' (flt p n).length (flt p n).length (sC (fltS f p n)) ∧ Below w.heap.size w w'
theorem str_nil {f : Nat → ByteArray} {p : Nat → Bool} {n : Nat} {w w' : World} (h : flt p n = []) (hb : Below w.heap.size w w') : StrRes f p n false w (.returned (.tuple #[.slice none 0 0, .bool false])) w' :=
  ⟨_, rfl, by rw [h]; exact Own.nil_ _ _ _ _ _ _, hb⟩
theorem infoStr : (Try.prog.info? 9).map (fun i => (i.zero, i.size, i.bytes)) = some (some (.string ⟨#[]⟩), 1, 16) := by kernel_rfl
set_option maxRecDepth 100000 in
set_option maxHeartbeats 1600000 in
theorem RecalledTeams_impl (T : Nat → Tm) (n : Nat) (m : Int) (lo hi : Nat) (v : Value) (w : World) (hv : SlT w lo hi v n T) (hhi : hi ≤ w.heap.size) (hf : tfits T n) :
    Calls Try.prog 12 #[v, .int .i64 m] w (StrRes (fun i => (T i).s) (rcQ T n m) n (rcOk T n m) w) := by
  obtain ⟨A, cap, rfl, hcap⟩ := hv.open_
  obtain ⟨ii, hii, iz0, iz1, iz2⟩ := info_parts infoStr
  cases hB : bdB T n with
  | false =>
    have HF : Hid (rcOk T n m = false) := by show _ = _; simp [rcOk, hB]
    go_enter Try.func12, Try.ntmps12
    go_wp2_with (go_at_call 32; refine (isBoard_any T n lo hi _ _ hv hhi hf).mono ?_; rintro e w1 ⟨rfl, hb1⟩; have hz1 := hb1.size; (try (simp at hz1)); obtain ⟨hcw1, hfw1⟩ := bcell hb1; (try (have hy1 : w.heap.size < w1.heap.size := by omega)); (try (have hyy1 : w.heap.size + 1 < w1.heap.size := by omega)); (try (have hyyy1 : w.heap.size + 1 + 1 < w1.heap.size := by omega)))
    go_ret2
    rw [HF.out]
    exact str_nil (rcQ_no HF.out n) (by repeat (first | (with_reducible exact Below.refl _ _) | (with_reducible refine below_ov ?_ ?_) | (with_reducible refine Below.setCell ?_ ?_ _) | (with_reducible refine Below.alloc ?_ ?_ _) | (with_reducible refine Below.drew ?_) | (with_reducible refine below_drewN ?_ _) | (refine Below.trans ?_ (Below.mono ‹Below _ _ _› (by first | omega | (simp; done) | (simp; omega)))) | exact Below.refl _ _ | omega | (focus (simp; done)) | (focus (simp; omega))))
  | true =>
    have HB := hide hB
    go_enter Try.func12, Try.ntmps12
    go_wp2_with fail
    refine (isBoard_any T n lo hi _ _ (hv.below (B := w.heap.size) (by repeat (first | (with_reducible exact Below.refl _ _) | (with_reducible refine below_ov ?_ ?_) | (with_reducible refine Below.setCell ?_ ?_ _) | (with_reducible refine Below.alloc ?_ ?_ _) | (with_reducible refine Below.drew ?_) | (with_reducible refine below_drewN ?_ _) | (refine Below.trans ?_ (Below.mono ‹Below _ _ _› (by first | omega | (simp; done) | (simp; omega)))) | exact Below.refl _ _ | omega | (focus (simp; done)) | (focus (simp; omega)))) hhi) hhi hf).mono ?_
    rintro e w1 ⟨rfl, hb1⟩
    have hz1 := hb1.size
    rw [hB]
    go_wp2_with fail
    refine (inside_any _ _ _ _).mono ?_
    rintro e w2 ⟨rfl, rfl⟩
    cases hI : inB m 0 600 with
    | false =>
      have HF : Hid (rcOk T n m = false) := by show _ = _; simp [rcOk, hI]
      go_wp2_with fail
      go_ret2
      rw [HF.out]
      exact str_nil (rcQ_no HF.out n) (by repeat (first | (with_reducible exact Below.refl _ _) | (with_reducible refine below_ov ?_ ?_) | (with_reducible refine Below.setCell ?_ ?_ _) | (with_reducible refine Below.alloc ?_ ?_ _) | (with_reducible refine Below.drew ?_) | (with_reducible refine below_drewN ?_ _) | (refine Below.trans ?_ (Below.mono ‹Below _ _ _› (by first | omega | (simp; done) | (simp; omega)))) | exact Below.refl _ _ | omega | (focus (simp; done)) | (focus (simp; omega))))
    | true =>
      have HE : Hid (rcOk T n m = true) := by show _ = _; simp [rcOk, hI, HB.out]
      have hm := inB_iff.1 hI
      go_wp2_with fail
      have hn : n ≤ 6 := (bd_facts HB.out).1
      have hb0 : Below w.heap.size w w1 := (by repeat (first | (with_reducible exact Below.refl _ _) | (with_reducible refine below_ov ?_ ?_) | (with_reducible refine Below.setCell ?_ ?_ _) | (with_reducible refine Below.alloc ?_ ?_ _) | (with_reducible refine Below.drew ?_) | (with_reducible refine below_drewN ?_ _) | (refine Below.trans ?_ (Below.mono ‹Below _ _ _› (by first | omega | (simp; done) | (simp; omega)))) | exact Below.refl _ _ | omega | (focus (simp; done)) | (focus (simp; omega))))
      go_loopw [6, 18] (fun o i wr => ∃ (k : Nat) (B : Option Addr) (cp : Nat), k ≤ n ∧ i = .int .i64 k ∧ o = .slice B (flt (rcQ T n m) k).length cp ∧ Hid (wr.ownsRow w.heap.size 9 1 (.slice B (flt (rcQ T n m) k).length cp) (flt (rcQ T n m) k).length (fltT (fun i => (T i).s) (rcQ T n m) k)) ∧ Below w.heap.size w wr) (fun _ i _ => n - (intOf i).toNat)
      case atStart => exact ⟨0, none, 0, by omega, rfl, rfl, World.ownsRow_nil _ _ _ _, hb0⟩
      case round =>
        obtain ⟨k, B, cp, hk, rfl, rfl, hown, hb⟩ := hrel
        have hzr := hb.size
        have hfl := flt_len (rcQ T n m) k
        by_cases hkn : k < n
        · obtain ⟨blk, off, ck, rfl, h1, h2, h3⟩ := (hv.below hb hhi).at_ (by omega) (by omega)
          have t0 := hide (h3 k hkn)
          have q0 := (h3 k hkn).c0
          have HK := hide ((bd_facts HB.out).2 k hkn).1
          have l0 : blk < wr.heap.size := by omega
          clear h3
          go_wp2_with fail
          refine (state_any (T k) m blk (off + k * 4) lo hi _ _ (t0.out.below (B := wr.heap.size) (by repeat (first | (with_reducible exact Below.refl _ _) | (with_reducible refine below_ov ?_ ?_) | (with_reducible refine Below.setCell ?_ ?_ _) | (with_reducible refine Below.alloc ?_ ?_ _) | (with_reducible refine Below.drew ?_) | (with_reducible refine below_drewN ?_ _) | (refine Below.trans ?_ (Below.mono ‹Below _ _ _› (by first | omega | (simp; done) | (simp; omega)))) | exact Below.refl _ _ | omega | (focus (simp; done)) | (focus (simp; omega)))) (Nat.le_refl _)) HK.out hm.1 hm.2).mono ?_
          rintro e w6 ⟨rfl, hb6⟩
          have hz6 := hb6.size
          (try (simp at hz6))
          have q1 := (hb6.cell (p := ⟨blk, off + k * 4, none⟩) (by show blk < _; omega)).trans q0
          have l1 : blk < w6.heap.size := by omega
          have ho6 := hide (row_below hown.out hb6 (Nat.le_refl _))
          cases e6 : ((stB (T k) m).toList == [116, 117, 114, 110]) with
          | true =>
            have hT : rcQ T n m k = true := by rw [rcQ_at HE.out]; exact e6
            have HL : Hid ((flt (rcQ T n m) (k + 1)).length = (flt (rcQ T n m) k).length + 1) := by show _ = _; rw [flt_yes hT]; simp
            have HV : Hid (fltT (fun i => (T i).s) (rcQ T n m) (k + 1) = fltT (fun i => (T i).s) (rcQ T n m) k ++ [.string (T k).s]) := by show _ = _; rw [fltT, flt_yes hT]; simp [fltT]
            clear hT
            go_wp2_with (at_builtin; refine wpList_append_own _ rfl _ _ 37 rfl w.heap.size 9 ii (.string ⟨#[]⟩) 1 16 Try.underlying37 hii iz0 iz1 iz2 rfl (by decide) _ _ _ rfl (ho6.out.alloc _) ⟨w6.heap.size, 0, none⟩ 1 1 [.string (T k).s] rfl rfl ?_ ?_ ?_ ?_ ?_ ?_)
            · intro i u hu
              match i, hu with
              | 0, hu => simp at hu; subst hu; simp [go_sem, Addr.add]
            · intro u hu; simp at hu; subst hu; rfl
            · unfold maxLen; omega
            · omega
            · simp; omega
            intro v' w7 hown5 hg5 _
            have hb6w : Below w.heap.size w w6 := (by repeat (first | (with_reducible exact Below.refl _ _) | (with_reducible refine below_ov ?_ ?_) | (with_reducible refine Below.setCell ?_ ?_ _) | (with_reducible refine Below.alloc ?_ ?_ _) | (with_reducible refine Below.drew ?_) | (with_reducible refine below_drewN ?_ _) | (refine Below.trans ?_ (Below.mono ‹Below _ _ _› (by first | omega | (simp; done) | (simp; omega)))) | exact Below.refl _ _ | omega | (focus (simp; done)) | (focus (simp; omega))))
            have hb7 : Below w.heap.size w w7 := (hb6w.alloc (by omega) _).grown hg5 (by simp; omega) (fun g hg => (ho6.out.lt g hg).1)
            have hz7 := hb7.size
            obtain ⟨B2, cp2, rfl⟩ := row_form hown5
            have hown6 := hide hown5
            clear hown5 hg5 ho6
            go_wp2_with fail
            go_roundw
            case rel => exact ⟨k + 1, B2, cp2, by omega, by go_num, by rw [HL.out], by rw [HL.out, HV.out]; exact hown6, hb7⟩
            case measure => simp [intOf]; omega
          | false =>
            have hT : rcQ T n m k = false := by rw [rcQ_at HE.out]; exact e6
            have HL : Hid ((flt (rcQ T n m) (k + 1)) = flt (rcQ T n m) k) := by show _ = _; rw [flt_no hT]
            have HV : Hid (fltT (fun i => (T i).s) (rcQ T n m) (k + 1) = fltT (fun i => (T i).s) (rcQ T n m) k) := by show _ = _; rw [fltT, flt_no hT]; rfl
            clear hT
            go_wp2_with fail
            go_roundw
            case rel => exact ⟨k + 1, B, cp, by omega, by go_num, by rw [HL.out], by rw [HL.out, HV.out]; exact ho6, (by repeat (first | (with_reducible exact Below.refl _ _) | (with_reducible refine below_ov ?_ ?_) | (with_reducible refine Below.setCell ?_ ?_ _) | (with_reducible refine Below.alloc ?_ ?_ _) | (with_reducible refine Below.drew ?_) | (with_reducible refine below_drewN ?_ _) | (refine Below.trans ?_ (Below.mono ‹Below _ _ _› (by first | omega | (simp; done) | (simp; omega)))) | exact Below.refl _ _ | omega | (focus (simp; done)) | (focus (simp; omega))))⟩
            case measure => simp [intOf]; omega
        · obtain rfl : k = n := by omega
          go_wp2_with fail
          go_ret2
          rw [HE.out]
          exact ⟨_, rfl, (own_fltS hown.out).mono (Nat.le_refl _) (Nat.le_refl _), hb⟩
set_option maxRecDepth 100000 in
set_option maxHeartbeats 1600000 in
theorem RecalledTeams_spec (T : Nat → Tm) (n : Nat) (m : Int) (lo hi : Nat) (v : Value) (w : World) (hv : SlT w lo hi v n T) (hhi : hi ≤ w.heap.size) (hf : tfits T n) :
    Calls Try.prog 13 #[v, .int .i64 m] w (StrRes (fun i => (T i).s) (rcQ T n m) n (rcOk T n m) w) := by
  obtain ⟨A, cap, rfl, hcap⟩ := hv.open_
  obtain ⟨ii, hii, iz0, iz1, iz2⟩ := info_parts infoStr
  cases hB : bdB T n with
  | false =>
    have HF : Hid (rcOk T n m = false) := by show _ = _; simp [rcOk, hB]
    go_enter Try.func13, Try.ntmps13
    go_wp2_with (go_at_call 40; refine (enGood_any T n lo hi _ _ hv hhi hf).mono ?_; rintro e w1 ⟨rfl, hb1⟩; have hz1 := hb1.size; (try (simp at hz1)); obtain ⟨hcw1, hfw1⟩ := bcell hb1; (try (have hy1 : w.heap.size < w1.heap.size := by omega)); (try (have hyy1 : w.heap.size + 1 < w1.heap.size := by omega)); (try (have hyyy1 : w.heap.size + 1 + 1 < w1.heap.size := by omega)))
    go_ret2
    rw [HF.out]
    exact str_nil (rcQ_no HF.out n) (by repeat (first | (with_reducible exact Below.refl _ _) | (with_reducible refine below_ov ?_ ?_) | (with_reducible refine Below.setCell ?_ ?_ _) | (with_reducible refine Below.alloc ?_ ?_ _) | (with_reducible refine Below.drew ?_) | (with_reducible refine below_drewN ?_ _) | (refine Below.trans ?_ (Below.mono ‹Below _ _ _› (by first | omega | (simp; done) | (simp; omega)))) | exact Below.refl _ _ | omega | (focus (simp; done)) | (focus (simp; omega))))
  | true =>
    have HB := hide hB
    go_enter Try.func13, Try.ntmps13
    go_wp2_with fail
    refine (enGood_any T n lo hi _ _ (hv.below (B := w.heap.size) (by repeat (first | (with_reducible exact Below.refl _ _) | (with_reducible refine below_ov ?_ ?_) | (with_reducible refine Below.setCell ?_ ?_ _) | (with_reducible refine Below.alloc ?_ ?_ _) | (with_reducible refine Below.drew ?_) | (with_reducible refine below_drewN ?_ _) | (refine Below.trans ?_ (Below.mono ‹Below _ _ _› (by first | omega | (simp; done) | (simp; omega)))) | exact Below.refl _ _ | omega | (focus (simp; done)) | (focus (simp; omega)))) hhi) hhi hf).mono ?_
    rintro e w1 ⟨rfl, hb1⟩
    have hz1 := hb1.size
    rw [hB]
    go_wp2_with fail
    refine (enMinute_any _ _).mono ?_
    rintro e w2 ⟨rfl, rfl⟩
    cases hI : inB m 0 600 with
    | false =>
      have HF : Hid (rcOk T n m = false) := by show _ = _; simp [rcOk, hI]
      go_wp2_with fail
      go_ret2
      rw [HF.out]
      exact str_nil (rcQ_no HF.out n) (by repeat (first | (with_reducible exact Below.refl _ _) | (with_reducible refine below_ov ?_ ?_) | (with_reducible refine Below.setCell ?_ ?_ _) | (with_reducible refine Below.alloc ?_ ?_ _) | (with_reducible refine Below.drew ?_) | (with_reducible refine below_drewN ?_ _) | (refine Below.trans ?_ (Below.mono ‹Below _ _ _› (by first | omega | (simp; done) | (simp; omega)))) | exact Below.refl _ _ | omega | (focus (simp; done)) | (focus (simp; omega))))
    | true =>
      have HE : Hid (rcOk T n m = true) := by show _ = _; simp [rcOk, hI, HB.out]
      have hm := inB_iff.1 hI
      go_wp2_with fail
      have hn : n ≤ 6 := (bd_facts HB.out).1
      have hb0 : Below w.heap.size w w1 := (by repeat (first | (with_reducible exact Below.refl _ _) | (with_reducible refine below_ov ?_ ?_) | (with_reducible refine Below.setCell ?_ ?_ _) | (with_reducible refine Below.alloc ?_ ?_ _) | (with_reducible refine Below.drew ?_) | (with_reducible refine below_drewN ?_ _) | (refine Below.trans ?_ (Below.mono ‹Below _ _ _› (by first | omega | (simp; done) | (simp; omega)))) | exact Below.refl _ _ | omega | (focus (simp; done)) | (focus (simp; omega))))
      go_loopw [6, 19] (fun o i wr => ∃ (k : Nat) (B : Option Addr) (cp : Nat), k ≤ n ∧ i = .int .i64 k ∧ o = .slice B (flt (rcQ T n m) k).length cp ∧ Hid (wr.ownsRow w.heap.size 9 1 (.slice B (flt (rcQ T n m) k).length cp) (flt (rcQ T n m) k).length (fltT (fun i => (T i).s) (rcQ T n m) k)) ∧ Below w.heap.size w wr) (fun _ i _ => n - (intOf i).toNat)
      case atStart => exact ⟨0, none, 0, by omega, rfl, rfl, World.ownsRow_nil _ _ _ _, hb0⟩
      case round =>
        obtain ⟨k, B, cp, hk, rfl, rfl, hown, hb⟩ := hrel
        have hzr := hb.size
        have hfl := flt_len (rcQ T n m) k
        by_cases hkn : k < n
        · obtain ⟨blk, off, ck, rfl, h1, h2, h3⟩ := (hv.below hb hhi).at_ (by omega) (by omega)
          have t0 := hide (h3 k hkn)
          have q0 := (h3 k hkn).c0
          have qa := (h3 k hkn).c1
          have qb := (h3 k hkn).c2
          have qc := (h3 k hkn).c3
          obtain ⟨Ak, ckk, ek, _, _⟩ := t0.out.sl.open_
          have sk := t0.out.sl
          rw [ek] at qc sk
          have SK := hide sk
          clear ek sk
          have HK := hide ((bd_facts HB.out).2 k hkn).1
          have l0 : blk < wr.heap.size := by omega
          clear h3
          go_wp2_with fail
          refine (enState_any (T k) m lo hi _ _ (SK.out.below (B := wr.heap.size) (by repeat (first | (with_reducible exact Below.refl _ _) | (with_reducible refine below_ov ?_ ?_) | (with_reducible refine Below.setCell ?_ ?_ _) | (with_reducible refine Below.alloc ?_ ?_ _) | (with_reducible refine Below.drew ?_) | (with_reducible refine below_drewN ?_ _) | (refine Below.trans ?_ (Below.mono ‹Below _ _ _› (by first | omega | (simp; done) | (simp; omega)))) | exact Below.refl _ _ | omega | (focus (simp; done)) | (focus (simp; omega)))) (by omega)) (by simp; omega) HK.out hm.1 hm.2).mono ?_
          rintro e w6 ⟨rfl, hb6⟩
          have hz6 := hb6.size
          (try (simp at hz6))
          have q1 : w6.cell? ⟨wr.heap.size, 0, none⟩ = some (.string (T k).s) := (hb6.cell (p := ⟨wr.heap.size, 0, none⟩) (by simp)).trans (World.cell?_alloc_new _ _ _ _)
          have l1 : wr.heap.size < w6.heap.size := by omega
          have ho6 := hide (row_below (hown.out.alloc _) hb6 (Nat.le_refl _))
          cases e6 : ((stB (T k) m).toList == [116, 117, 114, 110]) with
          | true =>
            have hT : rcQ T n m k = true := by rw [rcQ_at HE.out]; exact e6
            have HL : Hid ((flt (rcQ T n m) (k + 1)).length = (flt (rcQ T n m) k).length + 1) := by show _ = _; rw [flt_yes hT]; simp
            have HV : Hid (fltT (fun i => (T i).s) (rcQ T n m) (k + 1) = fltT (fun i => (T i).s) (rcQ T n m) k ++ [.string (T k).s]) := by show _ = _; rw [fltT, flt_yes hT]; simp [fltT]
            clear hT
            go_wp2_with (at_builtin; refine wpList_append_own _ rfl _ _ 37 rfl w.heap.size 9 ii (.string ⟨#[]⟩) 1 16 Try.underlying37 hii iz0 iz1 iz2 rfl (by decide) _ _ _ rfl (ho6.out.alloc _) ⟨w6.heap.size, 0, none⟩ 1 1 [.string (T k).s] rfl rfl ?_ ?_ ?_ ?_ ?_ ?_)
            · intro i u hu
              match i, hu with
              | 0, hu => simp at hu; subst hu; simp [go_sem, Addr.add]
            · intro u hu; simp at hu; subst hu; rfl
            · unfold maxLen; omega
            · omega
            · simp; omega
            intro v' w7 hown5 hg5 _
            have hb6w : Below w.heap.size w w6 := (by repeat (first | (with_reducible exact Below.refl _ _) | (with_reducible refine below_ov ?_ ?_) | (with_reducible refine Below.setCell ?_ ?_ _) | (with_reducible refine Below.alloc ?_ ?_ _) | (with_reducible refine Below.drew ?_) | (with_reducible refine below_drewN ?_ _) | (refine Below.trans ?_ (Below.mono ‹Below _ _ _› (by first | omega | (simp; done) | (simp; omega)))) | exact Below.refl _ _ | omega | (focus (simp; done)) | (focus (simp; omega))))
            have hb7 : Below w.heap.size w w7 := (hb6w.alloc (by omega) _).grown hg5 (by simp; omega) (fun g hg => (ho6.out.lt g hg).1)
            have hz7 := hb7.size
            obtain ⟨B2, cp2, rfl⟩ := row_form hown5
            have hown6 := hide hown5
            clear hown5 hg5 ho6
            go_wp2_with fail
            go_roundw
            case rel => exact ⟨k + 1, B2, cp2, by omega, by go_num, by rw [HL.out], by rw [HL.out, HV.out]; exact hown6, hb7⟩
            case measure => simp [intOf]; omega
          | false =>
            have hT : rcQ T n m k = false := by rw [rcQ_at HE.out]; exact e6
            have HL : Hid ((flt (rcQ T n m) (k + 1)) = flt (rcQ T n m) k) := by show _ = _; rw [flt_no hT]
            have HV : Hid (fltT (fun i => (T i).s) (rcQ T n m) (k + 1) = fltT (fun i => (T i).s) (rcQ T n m) k) := by show _ = _; rw [fltT, flt_no hT]; rfl
            clear hT
            go_wp2_with fail
            go_roundw
            case rel => exact ⟨k + 1, B, cp, by omega, by go_num, by rw [HL.out], by rw [HL.out, HV.out]; exact ho6, (by repeat (first | (with_reducible exact Below.refl _ _) | (with_reducible refine below_ov ?_ ?_) | (with_reducible refine Below.setCell ?_ ?_ _) | (with_reducible refine Below.alloc ?_ ?_ _) | (with_reducible refine Below.drew ?_) | (with_reducible refine below_drewN ?_ _) | (refine Below.trans ?_ (Below.mono ‹Below _ _ _› (by first | omega | (simp; done) | (simp; omega)))) | exact Below.refl _ _ | omega | (focus (simp; done)) | (focus (simp; omega))))⟩
            case measure => simp [intOf]; omega
        · obtain rfl : k = n := by omega
          go_wp2_with fail
          go_ret2
          rw [HE.out]
          exact ⟨_, rfl, (own_fltS hown.out).mono (Nat.le_refl _) (Nat.le_refl _), hb⟩

end Go.Proofs.Ytnfhgnibjebmlaa

/-
  Walks: the text of a board.-/
namespace Go.Proofs.Ytnfhgnibjebmlaa
set_option linter.unusedVariables false
set_option linter.unusedSimpArgs false
open Go.RowKit

/-- The text of the first k teams. -/
def btS (T : Nat → Tm) (m : Int) : Nat → ByteArray
  | 0 => ⟨#[]⟩
  | k + 1 => btS T m k ++ ((((T k).s ++ ⟨#[58]⟩) ++ stB (T k) m) ++ ⟨#[59]⟩)
def btOk (T : Nat → Tm) (n : Nat) (m : Int) : Bool := bdB T n && inB m 0 600
def btR (T : Nat → Tm) (n : Nat) (m : Int) : ByteArray := if btOk T n m = true then btS T m n else ⟨#[]⟩
theorem stB_size (T : Tm) (m : Int) : (stB T m).size ≤ 10 := by
  unfold stB
  split
  · exact Nat.le_of_ble_eq_true (by kernel_rfl)
  · split
    · exact Nat.le_of_ble_eq_true (by kernel_rfl)
    · exact Nat.le_of_ble_eq_true (by kernel_rfl)
theorem nameB_size {T : Tm} (h : tmB T = true) : T.s.size ≤ 6 := by
  have h1 := (tm_facts h).1
  simp only [nameB, Bool.and_eq_true, inB_iff] at h1
  omega
theorem btS_size {T : Nat → Tm} {m : Int} {n : Nat} (h : ∀ i, i < n → tmB (T i) = true) : ∀ k, k ≤ n → (btS T m k).size ≤ 20 * k
  | 0, _ => by show (0 : Nat) ≤ _; omega
  | k + 1, hk => by
    have h1 := btS_size (m := m) h k (by omega)
    have h2 := nameB_size (h k (by omega))
    have h3 := stB_size (T k) m
    simp only [btS, ByteArray.size_append, ByteArray.size_mk']
    simp
    omega
set_option maxRecDepth 100000 in
set_option maxHeartbeats 1600000 in
theorem BoardText_impl (T : Nat → Tm) (n : Nat) (m : Int) (lo hi : Nat) (v : Value) (w : World) (hv : SlT w lo hi v n T) (hhi : hi ≤ w.heap.size) (hf : tfits T n) :
    Calls Try.prog 14 #[v, .int .i64 m] w fun e w' => e = .returned (.tuple #[.string (btR T n m), .bool (btOk T n m)]) ∧ Below w.heap.size w w' := by
  obtain ⟨A, cap, rfl, hcap⟩ := hv.open_
  cases hB : bdB T n with
  | false =>
    have HF : Hid (btOk T n m = false) := by show _ = _; simp [btOk, hB]
    have HS : Hid (btR T n m = ⟨#[]⟩) := by show _ = _; rw [btR, HF.out]; rfl
    go_enter Try.func14, Try.ntmps14
    go_wp2_with (go_at_call 32; refine (isBoard_any T n lo hi _ _ hv hhi hf).mono ?_; rintro e w1 ⟨rfl, hb1⟩; have hz1 := hb1.size; (try (simp at hz1)); obtain ⟨hcw1, hfw1⟩ := bcell hb1; (try (have hy1 : w.heap.size < w1.heap.size := by omega)); (try (have hyy1 : w.heap.size + 1 < w1.heap.size := by omega)); (try (have hyyy1 : w.heap.size + 1 + 1 < w1.heap.size := by omega)))
    go_ret2
    exact ⟨ret_sb HS.out.symm HF.out.symm, (by repeat (first | (with_reducible exact Below.refl _ _) | (with_reducible refine below_ov ?_ ?_) | (with_reducible refine Below.setCell ?_ ?_ _) | (with_reducible refine Below.alloc ?_ ?_ _) | (with_reducible refine Below.drew ?_) | (with_reducible refine below_drewN ?_ _) | (refine Below.trans ?_ (Below.mono ‹Below _ _ _› (by first | omega | (simp; done) | (simp; omega)))) | exact Below.refl _ _ | omega | (focus (simp; done)) | (focus (simp; omega))))⟩
  | true =>
    have HB := hide hB
    go_enter Try.func14, Try.ntmps14
    go_wp2_with fail
    refine (isBoard_any T n lo hi _ _ (hv.below (B := w.heap.size) (by repeat (first | (with_reducible exact Below.refl _ _) | (with_reducible refine below_ov ?_ ?_) | (with_reducible refine Below.setCell ?_ ?_ _) | (with_reducible refine Below.alloc ?_ ?_ _) | (with_reducible refine Below.drew ?_) | (with_reducible refine below_drewN ?_ _) | (refine Below.trans ?_ (Below.mono ‹Below _ _ _› (by first | omega | (simp; done) | (simp; omega)))) | exact Below.refl _ _ | omega | (focus (simp; done)) | (focus (simp; omega)))) hhi) hhi hf).mono ?_
    rintro e w1 ⟨rfl, hb1⟩
    have hz1 := hb1.size
    rw [hB]
    go_wp2_with fail
    refine (inside_any _ _ _ _).mono ?_
    rintro e w2 ⟨rfl, rfl⟩
    cases hI : inB m 0 600 with
    | false =>
      have HF : Hid (btOk T n m = false) := by show _ = _; simp [btOk, hI]
      have HS : Hid (btR T n m = ⟨#[]⟩) := by show _ = _; rw [btR, HF.out]; rfl
      go_wp2_with fail
      go_ret2
      exact ⟨ret_sb HS.out.symm HF.out.symm, (by repeat (first | (with_reducible exact Below.refl _ _) | (with_reducible refine below_ov ?_ ?_) | (with_reducible refine Below.setCell ?_ ?_ _) | (with_reducible refine Below.alloc ?_ ?_ _) | (with_reducible refine Below.drew ?_) | (with_reducible refine below_drewN ?_ _) | (refine Below.trans ?_ (Below.mono ‹Below _ _ _› (by first | omega | (simp; done) | (simp; omega)))) | exact Below.refl _ _ | omega | (focus (simp; done)) | (focus (simp; omega))))⟩
    | true =>
      have HE : Hid (btOk T n m = true) := by show _ = _; simp [btOk, hI, HB.out]
      have HS : Hid (btR T n m = btS T m n) := by show _ = _; rw [btR, if_pos HE.out]
      have hm := inB_iff.1 hI
      go_wp2_with fail
      have hn : n ≤ 1048576 := hf.1
      go_loopw [6, 18] (fun a i wr => ∃ k : Nat, k ≤ n ∧ i = .int .i64 k ∧ a = .string (btS T m k) ∧ Below w.heap.size w wr) (fun _ i _ => n - (intOf i).toNat)
      case atStart => exact ⟨0, by omega, rfl, rfl, (by repeat (first | (with_reducible exact Below.refl _ _) | (with_reducible refine below_ov ?_ ?_) | (with_reducible refine Below.setCell ?_ ?_ _) | (with_reducible refine Below.alloc ?_ ?_ _) | (with_reducible refine Below.drew ?_) | (with_reducible refine below_drewN ?_ _) | (refine Below.trans ?_ (Below.mono ‹Below _ _ _› (by first | omega | (simp; done) | (simp; omega)))) | exact Below.refl _ _ | omega | (focus (simp; done)) | (focus (simp; omega))))⟩
      case round =>
        obtain ⟨k, hk, rfl, rfl, hb⟩ := hrel
        have hzr := hb.size
        by_cases hkn : k < n
        · obtain ⟨blk, off, ck, rfl, h1, h2, h3⟩ := (hv.below hb hhi).at_ (by omega) (by omega)
          have t0 := hide (h3 k hkn)
          have q0 := (h3 k hkn).c0
          have HK := hide ((bd_facts HB.out).2 k hkn).1
          have l0 : blk < wr.heap.size := by omega
          clear h3
          have s1 := nameB_size HK.out
          have s2 := stB_size (T k) m
          have s3 := btS_size (m := m) (fun i hi => ((bd_facts HB.out).2 i hi).1) k (by omega)
          have hq := (bd_facts HB.out).1
          have b1 : ¬ (9223372036854775807 < (T k).s.size + 1) := by omega
          have b2 : ¬ (9223372036854775807 < (T k).s.size + 1 + (stB (T k) m).size) := by omega
          have b3 : ¬ (9223372036854775807 < (T k).s.size + 1 + (stB (T k) m).size + 1) := by omega
          have b4 : ¬ (9223372036854775807 < (btS T m k).size + ((T k).s.size + 1 + (stB (T k) m).size + 1)) := by omega
          have i1 : ¬ ((9223372036854775807 : Int) < (T k).s.size + 1) := by omega
          have i2 : ¬ ((9223372036854775807 : Int) < (T k).s.size + 1 + (stB (T k) m).size) := by omega
          have i3 : ¬ ((9223372036854775807 : Int) < (T k).s.size + 1 + (stB (T k) m).size + 1) := by omega
          have i4 : ¬ ((9223372036854775807 : Int) < (btS T m k).size + ((T k).s.size + 1 + (stB (T k) m).size + 1)) := by omega
          go_wp2_with fail
          (refine wp_region_below_lit (by kernel_rfl) (by kernel_rfl) ?_; (repeat (first | go_big_quiet_step ((go_at_call 50; exact quiet_ov (state_any (T k) m blk (off + k * 4) lo hi _ _ (t0.out.below (B := wr.heap.size) (by repeat (first | (with_reducible exact Below.refl _ _) | (with_reducible refine below_ov ?_ ?_) | (with_reducible refine Below.setCell ?_ ?_ _) | (with_reducible refine Below.alloc ?_ ?_ _) | (with_reducible refine Below.drew ?_) | (with_reducible refine below_drewN ?_ _) | (refine Below.trans ?_ (Below.mono ‹Below _ _ _› (by first | omega | (simp; done) | (simp; omega)))) | exact Below.refl _ _ | omega | (focus (simp; done)) | (focus (simp; omega)))) (Nat.le_refl _)) HK.out hm.1 hm.2))) | quiet_step ((go_at_call 50; exact quiet_ov (state_any (T k) m blk (off + k * 4) lo hi _ _ (t0.out.below (B := wr.heap.size) (by repeat (first | (with_reducible exact Below.refl _ _) | (with_reducible refine below_ov ?_ ?_) | (with_reducible refine Below.setCell ?_ ?_ _) | (with_reducible refine Below.alloc ?_ ?_ _) | (with_reducible refine Below.drew ?_) | (with_reducible refine below_drewN ?_ _) | (refine Below.trans ?_ (Below.mono ‹Below _ _ _› (by first | omega | (simp; done) | (simp; omega)))) | exact Below.refl _ _ | omega | (focus (simp; done)) | (focus (simp; omega)))) (Nat.le_refl _)) HK.out hm.1 hm.2))))); refine wpQuiet_nil ?_; intro w2 hb2; have hz2 := hb2.size; (try (simp at hz2)); obtain ⟨hcw2, hfw2⟩ := bcell hb2; (try (have hy2 : w.heap.size < w2.heap.size := by omega)); (try (have hyy2 : w.heap.size + 1 < w2.heap.size := by omega)))
          all_goals go_wp2
          go_roundw
          case rel => exact ⟨k + 1, by omega, by go_num, rfl, (by repeat (first | (with_reducible exact Below.refl _ _) | (with_reducible refine below_ov ?_ ?_) | (with_reducible refine Below.setCell ?_ ?_ _) | (with_reducible refine Below.alloc ?_ ?_ _) | (with_reducible refine Below.drew ?_) | (with_reducible refine below_drewN ?_ _) | (refine Below.trans ?_ (Below.mono ‹Below _ _ _› (by first | omega | (simp; done) | (simp; omega)))) | exact Below.refl _ _ | omega | (focus (simp; done)) | (focus (simp; omega))))⟩
          case measure => simp [intOf]; omega
        · obtain rfl : k = n := by omega
          go_wp2_with fail
          go_ret2
          exact ⟨ret_sb HS.out.symm HE.out.symm, (by repeat (first | (with_reducible exact Below.refl _ _) | (with_reducible refine below_ov ?_ ?_) | (with_reducible refine Below.setCell ?_ ?_ _) | (with_reducible refine Below.alloc ?_ ?_ _) | (with_reducible refine Below.drew ?_) | (with_reducible refine below_drewN ?_ _) | (refine Below.trans ?_ (Below.mono ‹Below _ _ _› (by first | omega | (simp; done) | (simp; omega)))) | exact Below.refl _ _ | omega | (focus (simp; done)) | (focus (simp; omega))))⟩

end Go.Proofs.Ytnfhgnibjebmlaa

/-
  Plain words for FnBoards: who enters can leave; who is recalled must turn; the first one to turn; one more check. No program in sight.-/
namespace Go.Proofs.Ytnfhgnibjebmlaa
set_option linter.unusedVariables false
set_option linter.unusedSimpArgs false

theorem fst_iff {f : Nat → Bool} {m : Nat} : decide (0 ≤ fstI f m) = true ↔ ∃ t, t < m ∧ f t = true := by
  rw [decide_eq_true_eq]
  rcases fstI_cases f m with ⟨h1, h2⟩ | ⟨k, h1, h2, h3, _⟩
  · rw [h1]
    refine ⟨fun h => by omega, fun ⟨t, ht, h⟩ => ?_⟩
    rw [h2 t ht] at h
    cases h
  · rw [h2]
    exact ⟨fun _ => ⟨k, h1, h3⟩, fun _ => by omega⟩
theorem flt_mem {P : Nat → Bool} : ∀ {N k : Nat}, k ∈ flt P N ↔ k < N ∧ P k = true
  | 0, k => by simp [flt]
  | N + 1, k => by
    rw [flt, List.mem_append, flt_mem]
    by_cases h : P N = true
    · rw [if_pos h]
      simp only [List.mem_singleton]
      constructor
      · rintro (⟨h1, h2⟩ | rfl)
        · exact ⟨by omega, h2⟩
        · exact ⟨by omega, h⟩
      · rintro ⟨h1, h2⟩
        by_cases e : k = N
        · exact .inr e
        · exact .inl ⟨by omega, h2⟩
    · rw [if_neg h]
      simp only [List.not_mem_nil, or_false]
      constructor
      · rintro ⟨h1, h2⟩; exact ⟨by omega, h2⟩
      · rintro ⟨h1, h2⟩
        by_cases e : k = N
        · subst e; exact absurd h2 h
        · exact ⟨by omega, h2⟩
/-- A text is among the first n. -/
def hasT (F : Nat → ByteArray) (s : ByteArray) (n : Nat) : Bool := decide (0 ≤ fstI (fun i => decide (F i = s)) n)
section
variable {T : Nat → Tm} {n : Nat} {X : Tm} {s : ByteArray} {m b : Int}
/-- On a board no two have one name. -/
theorem bd_inj (h : bdB T n = true) {i j : Nat} (hi : i < n) (hj : j < n) (e : (T i).s = (T j).s) : i = j := by
  rcases Nat.lt_trichotomy i j with h1 | h1 | h1
  · have := bd_lt h h1 hj; rw [e, ltS_irrefl] at this; cases this
  · exact h1
  · have := bd_lt h h1 hi; rw [e, ltS_irrefl] at this; cases this
theorem insT_lt {k i : Nat} (h : i < k) : insT T k X i = T i := by rw [insT, if_pos h]
theorem insT_at {k : Nat} : insT T k X k = X := by rw [insT, if_neg (Nat.lt_irrefl _), if_pos rfl]
theorem insT_gt {k i : Nat} (h : k < i) : insT T k X i = T (i - 1) := by rw [insT, if_neg (by omega), if_neg (by omega)]
theorem et_parts (h : etOk T n X = true) : bdB T n = true ∧ tmB X = true ∧ n ≤ 5 ∧ fdB T n X.s = false := by
  simp only [etOk, Bool.and_eq_true, Bool.not_eq_true', decide_eq_false_iff_not] at h
  have := (bd_facts h.1).1
  exact ⟨h.1, h.2.1, by omega, h.2.2.2⟩
theorem et_board (h : etOk T n X = true) : bdB (etT T n X) (n + 1) = true := by
  obtain ⟨h1, h2, h3, h4⟩ := et_parts h
  obtain ⟨l1, l2, l3⟩ := lead_spec (fun i => ltS (T i).s X.s) n
  have hk : fdK T n X.s ≤ n := l1
  have hlt : ∀ i, i < fdK T n X.s → ltS (T i).s X.s = true := l2
  have hge : fdK T n X.s < n → ltS X.s (T (fdK T n X.s)).s = true := fun hh => by
    have g1 : ltS (T (fdK T n X.s)).s X.s = false := by
      rcases l3 with l3 | l3
      · exact absurd l3 (by show ¬ fdK T n X.s = n; omega)
      · exact l3
    rcases ltS_tri (T (fdK T n X.s)).s X.s with g | g | g
    · rw [g1] at g; cases g
    · have : fdB T n X.s = true := by rw [fdB, Bool.and_eq_true]; exact ⟨decide_eq_true hh, nmP_iff.2 g⟩
      rw [h4] at this; cases this
    · exact g
  have hb := (bd_facts h1).2
  rw [bdB, Bool.and_eq_true, allB_iff, decide_eq_true_eq]
  refine ⟨fun i hi => ?_, by omega⟩
  rw [bd1, Bool.and_eq_true, Bool.or_eq_true, decide_eq_true_eq]
  unfold etT
  rcases Nat.lt_trichotomy i (fdK T n X.s) with g | g | g
  · rw [insT_lt g]
    refine ⟨(hb i (by omega)).1, ?_⟩
    rcases Nat.eq_zero_or_pos i with h0 | h0
    · exact .inl h0
    · rw [insT_lt (by omega)]
      exact .inr ((hb i (by omega)).2 h0)
  · rw [← g, insT_at]
    refine ⟨h2, ?_⟩
    rcases Nat.eq_zero_or_pos i with h0 | h0
    · exact .inl h0
    · rw [insT_lt (by omega)]
      exact .inr (hlt (i - 1) (by omega))
  · rw [insT_gt g]
    refine ⟨(hb (i - 1) (by omega)).1, .inr ?_⟩
    by_cases g2 : i = fdK T n X.s + 1
    · have e : i - 1 = fdK T n X.s := by omega
      rw [e, insT_at]
      exact hge (by omega)
    · rw [insT_gt (by omega)]
      exact (hb (i - 1) (by omega)).2 (by omega)
theorem et_fdK (h : etOk T n X = true) : fdK (etT T n X) (n + 1) X.s = fdK T n X.s := by
  obtain ⟨l1, l2, l3⟩ := lead_spec (fun i => ltS (T i).s X.s) n
  have hk : fdK T n X.s ≤ n := l1
  refine lead_eq (by omega) (fun j hj => ?_) (.inr ?_)
  · show ltS (etT T n X j).s X.s = true
    rw [etT, insT_lt hj]
    exact l2 j hj
  · show ltS (etT T n X (fdK T n X.s)).s X.s = false
    rw [etT, insT_at]
    exact ltS_irrefl _
/-- Who enters can leave; then the board is as it was. -/
theorem et_leave (h : etOk T n X = true) : lvOk (etT T n X) (n + 1) X.s = true ∧ lvN (etT T n X) (n + 1) X.s = n ∧ ∀ i, lvT (etT T n X) (n + 1) X.s i = T i := by
  have hk : fdK T n X.s ≤ n := fdK_le T n X.s
  have h1 : lvOk (etT T n X) (n + 1) X.s = true := by
    rw [lvOk, et_board h, Bool.true_and, fdB, et_fdK h, Bool.and_eq_true]
    exact ⟨decide_eq_true (by omega), nmP_iff.2 (by rw [etT, insT_at])⟩
  refine ⟨h1, by rw [lvN, if_pos h1]; omega, fun i => ?_⟩
  rw [lvT, et_fdK h, etT]
  rcases Nat.lt_or_ge i (fdK T n X.s) with g | g
  · rw [skp_lt g, insT_lt g]
  · rw [skp_ge g, insT_gt (by omega), Nat.add_sub_cancel]
/-- Each team's state is told; it is recalled just where it must turn. -/
theorem rc_has (h : rcOk T n m = true) {i : Nat} (hi : i < n) : staOk (T i) m = true ∧ staS (T i) m = stB (T i) m ∧ hasT (fltS (fun i => (T i).s) (rcQ T n m) n) (T i).s (flt (rcQ T n m) n).length = ((stB (T i) m).toList == [116, 117, 114, 110]) := by
  have h0 := h
  simp only [rcOk, Bool.and_eq_true] at h
  have h1 : staOk (T i) m = true := by rw [staOk, Bool.and_eq_true]; exact ⟨((bd_facts h.1).2 i hi).1, h.2⟩
  refine ⟨h1, by rw [staS, if_pos h1], ?_⟩
  rw [Bool.eq_iff_iff, hasT, fst_iff]
  have hq : ∀ j, rcQ T n m j = ((stB (T j) m).toList == [116, 117, 114, 110]) := fun j => rcQ_at h0
  rw [← hq i]
  constructor
  · rintro ⟨t, ht, e⟩
    have e := of_decide_eq_true e
    have hm : (flt (rcQ T n m) n).getD t 0 ∈ flt (rcQ T n m) n := by
      simp only [List.getD]
      rw [List.getElem?_eq_getElem ht]
      exact List.getElem_mem ht
    have h2 := flt_mem.1 hm
    have h3 : (flt (rcQ T n m) n).getD t 0 = i := bd_inj h.1 h2.1 hi e
    rw [← h3]
    exact h2.2
  · intro e
    obtain ⟨t, ht, g⟩ := List.getElem_of_mem (flt_mem.2 ⟨hi, e⟩)
    refine ⟨t, ht, decide_eq_true ?_⟩
    show (T ((flt (rcQ T n m) n).getD t 0)).s = (T i).s
    simp only [List.getD]
    rw [List.getElem?_eq_getElem ht, Option.getD_some, g]
/-- The best of the first k. -/
theorem ft_best (T : Nat → Tm) : ∀ {k : Nat}, 0 < k → ∃ b : Nat, b < k ∧ (ft T k).1 = (b : Nat) ∧ (ft T k).2.1 = tmTOk (T b) ∧ (ft T k).2.2 = ftT (T b) ∧ (tmTOk (T b) = true → ∀ i, i < k → tmTOk (T i) = true ∧ ftT (T b) ≤ ftT (T i))
  | k + 1, _ => by
    rcases Nat.eq_zero_or_pos k with h0 | h0
    · subst h0
      refine ⟨0, by omega, ?_, ?_, ?_, fun h i hi => ?_⟩
      · simp [ft, ftC]
      · simp [ft, ftC]
      · simp [ft, ftC]
      · obtain rfl : i = 0 := by omega
        exact ⟨h, Int.le_refl _⟩
    · obtain ⟨b, h1, h2, h3, h4, h5⟩ := ft_best T h0
      by_cases hc : ftC (ft T k) (T k) = true
      · refine ⟨k, by omega, ?_, ?_, ?_, fun h i hi => ?_⟩
        · simp only [ft, hc, if_true]
        · simp only [ft, hc, if_true]
        · simp only [ft, hc, if_true]
        · have hlt : ¬ (b : Int) < 0 := by omega
          simp only [ftC, h2, h3, h4, h, Bool.or_eq_true, Bool.and_eq_true, decide_eq_true_eq, hlt, false_or, Bool.not_true, Bool.false_eq_true, and_false, beq_iff_eq] at hc
          by_cases hik : i = k
          · subst hik; exact ⟨h, Int.le_refl _⟩
          · have h6 := h5 hc.1 i (by omega)
            exact ⟨h6.1, by omega⟩
      · refine ⟨b, by omega, ?_, ?_, ?_, fun h i hi => ?_⟩
        · simp only [ft, hc]; simp [h2]
        · simp only [ft, hc]; simp [h3]
        · simp only [ft, hc]; simp [h4]
        · have hlt : ¬ (b : Int) < 0 := by omega
          simp only [ftC, h2, h3, h4, h, Bool.or_eq_true, Bool.and_eq_true, decide_eq_true_eq, hlt, false_or, Bool.not_eq_true', true_and, beq_iff_eq, not_or, not_and] at hc
          by_cases hik : i = k
          · subst hik
            have h6 : tmTOk (T i) = true := by
              cases e : tmTOk (T i) with
              | true => rfl
              | false => exact absurd e hc.1
            exact ⟨h6, by have := hc.2 h6.symm; omega⟩
          · exact h5 h i (by omega)
/-- Some of the first k can no longer turn in time. -/
def noTurn (T : Nat → Tm) (k : Nat) : Bool := !allB (fun i => turnOk (T i)) k
theorem noTurn_zero (T : Nat → Tm) : noTurn T 0 = false := by simp [noTurn, allB]
/-- What the first one to turn is. -/
theorem fr_facts (h : frB T n = true) : bdB T n = true ∧ 0 < n ∧ ∃ b, b < n ∧ frS T n = (T b).s ∧ (turnOk (T b) = true → turnNN (T b) = frN T n ∧ noTurn T n = false ∧ ∀ i, i < n → frN T n ≤ turnNN (T i)) ∧ (turnOk (T b) = false → noTurn T n = true) := by
  have h0 := h
  simp only [frB, Bool.and_eq_true, decide_eq_true_eq] at h
  obtain ⟨h1, h2⟩ := h
  obtain ⟨b, b1, b2, b3, b4, b5⟩ := ft_best T h2
  have hb := (bd_facts h1).2
  have hto : ∀ i, i < n → turnOk (T i) = tmTOk (T i) := fun i hi => by rw [turnOk, (hb i hi).1, Bool.true_and]
  have htn : ∀ i, i < n → tmTOk (T i) = true → turnNN (T i) = ftT (T i) := fun i hi e => by rw [turnNN, if_pos (hb i hi).1, ftT, if_pos e]
  have hS : frS T n = (T b).s := by rw [frS, if_pos h0, b2]; rfl
  have hN : frN T n = ftT (T b) := by rw [frN, if_pos h0, b4]
  refine ⟨h1, h2, b, b1, hS, fun e => ?_, fun e => ?_⟩
  · rw [hto b b1] at e
    have h5 := b5 e
    refine ⟨by rw [htn b b1 e, hN], ?_, fun i hi => ?_⟩
    · rw [noTurn, allB_iff.2 fun i hi => by rw [hto i hi]; exact (h5 i hi).1]; rfl
    · rw [htn i hi (h5 i hi).1, hN]
      exact (h5 i hi).2
  · rw [noTurn, allB_false b1 e]; rfl
theorem noTurn_succ (T : Nat → Tm) (k : Nat) : noTurn T (k + 1) = (noTurn T k || !turnOk (T k)) := by
  rw [Bool.eq_iff_iff]
  simp only [noTurn, Bool.or_eq_true, Bool.not_eq_true']
  cases e : turnOk (T k) with
  | false =>
    have e4 : allB (fun i => turnOk (T i)) (k + 1) = false := allB_false (Nat.lt_succ_self k) e
    rw [e4]; simp
  | true =>
    cases e2 : allB (fun i => turnOk (T i)) k with
    | true =>
      rw [allB_iff.2 fun i hi => by
        by_cases hik : i = k
        · subst hik; exact e
        · exact allB_iff.1 e2 i (by omega)]
      simp
    | false =>
      cases e3 : allB (fun i => turnOk (T i)) (k + 1) with
      | false => simp
      | true =>
        rw [allB_iff.2 fun i hi => allB_iff.1 e3 i (by omega)] at e2
        cases e2
/-- The team with one more check. -/
theorem ad_facts (h : adOk T n s m b = true) : adN T n s m b = n ∧ ∀ i, i < n → (adT T n s m b i).s = (T i).s ∧ ((T i).s = s → (adT T n s m b i).n = (T i).n + 1 ∧ (adT T n s m b i).m (T i).n = m ∧ (adT T n s m b i).b (T i).n = b) := by
  have h0 := h
  simp only [adOk, Bool.and_eq_true] at h
  obtain ⟨h1, h2, h3⟩ := h
  have hk := fdB_lt h2
  simp only [fdB, Bool.and_eq_true] at h2
  have hs := nmP_iff.1 h2.2
  refine ⟨by rw [adN, if_pos h0], fun i hi => ⟨by unfold adT adW; split <;> rfl, fun e => ?_⟩⟩
  obtain rfl : i = fdK T n s := bd_inj h1 hi hk (by rw [e, hs])
  have e2 : adT T n s m b (fdK T n s) = adTm (T (fdK T n s)) m b := by rw [adT, adW, if_pos rfl]
  rw [e2]
  refine ⟨rfl, ?_, ?_⟩ <;> simp [adTm]
end

end Go.Proofs.Ytnfhgnibjebmlaa
