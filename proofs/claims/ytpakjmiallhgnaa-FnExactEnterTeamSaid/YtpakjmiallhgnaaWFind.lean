/-
  Walks: the team with a name.
-/
import Derived.Test.YtpakjmiallhgnaaWBoardL
namespace Go.Proofs.Ytpakjmiallhgnaa
set_option linter.unusedVariables false
set_option linter.unusedSimpArgs false
open Go.RowKit

def nmP (T : Nat → Tm) (s : ByteArray) (i : Nat) : Bool := (T i).s.toList == s.toList
def fdK (T : Nat → Tm) (n : Nat) (s : ByteArray) : Nat := lead (fun i => ltS (T i).s s) n
def fdB (T : Nat → Tm) (n : Nat) (s : ByteArray) : Bool := decide (fdK T n s < n) && nmP T s (fdK T n s)
theorem nmP_iff {T : Nat → Tm} {s : ByteArray} {i : Nat} : nmP T s i = true ↔ (T i).s = s := by
  rw [nmP, str_beq]; simp
/-- On a board the names rise. -/
theorem bd_lt {T : Nat → Tm} {n : Nat} (h : bdB T n = true) {i : Nat} : ∀ {j : Nat}, i < j → j < n → ltS (T i).s (T j).s = true
  | j + 1, h1, h2 => by
    have h3 := ((bd_facts h).2 (j + 1) h2).2 (by omega)
    rw [Nat.add_sub_cancel] at h3
    rcases Nat.lt_or_ge i j with h4 | h4
    · exact ltS_trans (bd_lt h h4 (by omega)) h3
    · obtain rfl : i = j := by omega
      exact h3
/-- Both ways to a name meet. -/
theorem fd_eq {T : Nat → Tm} {n : Nat} {s : ByteArray} (h : bdB T n = true) : fstI (nmP T s) n = if fdB T n s = true then (fdK T n s : Int) else -1 := by
  obtain ⟨h1, h2, h3⟩ := lead_spec (fun i => ltS (T i).s s) n
  by_cases hb : fdB T n s = true
  · rw [if_pos hb]
    simp only [fdB, Bool.and_eq_true, decide_eq_true_eq] at hb
    refine fstI_at hb.1 (fun j hj => ?_) hb.2
    have h4 := h2 j hj
    cases e : nmP T s j with
    | false => rfl
    | true =>
      rw [nmP_iff] at e
      simp only [e, ltS_irrefl] at h4
      cases h4
  · rw [if_neg hb]
    refine fstI_none fun j hj => ?_
    cases e : nmP T s j with
    | false => rfl
    | true =>
      exfalso
      apply hb
      have e' := nmP_iff.1 e
      have : fdK T n s = j := lead_eq (by omega) (fun i hi => by rw [← e']; exact bd_lt h hi hj) (.inr (by rw [e']; exact ltS_irrefl s))
      simp only [fdB, Bool.and_eq_true, decide_eq_true_eq, this]
      exact ⟨hj, e⟩
set_option maxHeartbeats 800000 in
theorem findTeam1_any (T : Tm) (vc : Value) (s : ByteArray) (p : Nat) (w : World) (hp : w.cell? ⟨p, 0, none⟩ = some (.string s)) (lp : p < w.heap.size) (hc : ∃ A n c, vc = .slice A n c) :
    Calls Try.prog 116 #[.agg #[.string T.s, .int .i64 T.v, .int .i64 T.y, vc], .pointer (some ⟨p, 0, none⟩)] w fun e w' => e = .returned (.bool (T.s.toList == s.toList)) ∧ Below w.heap.size w w' := by
  obtain ⟨A, n, c, rfl⟩ := hc
  go_enter Try.func116, Try.ntmps116
  go_wp2_with fail
  go_ret
  exact ⟨rfl, (by repeat (first | (with_reducible exact Below.refl _ _) | (with_reducible refine below_ov ?_ ?_) | (with_reducible refine Below.setCell ?_ ?_ _) | (with_reducible refine Below.alloc ?_ ?_ _) | (with_reducible refine Below.drew ?_) | (with_reducible refine below_drewN ?_ _) | (refine Below.trans ?_ (Below.mono ‹Below _ _ _› (by first | omega | (simp; done) | (simp; omega)))) | exact Below.refl _ _ | omega | (focus (simp; done)) | (focus (simp; omega))))⟩
set_option maxRecDepth 100000 in
set_option maxHeartbeats 1600000 in
theorem IndexFuncT_any (T : Nat → Tm) (n : Nat) (s : ByteArray) (lo hi p : Nat) (v : Value) (w : World) (hv : SlT w lo hi v n T) (hhi : hi ≤ w.heap.size) (hn : n ≤ 1048576)
    (hp : w.cell? ⟨p, 0, none⟩ = some (.string s)) (lp : p < w.heap.size) :
    Calls Try.prog 115 #[v, .func (.func 116) #[] #[.pointer (some ⟨p, 0, none⟩)]] w fun e w' => e = .returned (.int .i64 (fstI (nmP T s) n)) ∧ Below w.heap.size w w' := by
  obtain ⟨A, cap, rfl, hcap⟩ := hv.open_
  go_enter Try.func115, Try.ntmps115
  go_wp2_with fail
  go_loopw [8] (fun i wr => ∃ k : Nat, k ≤ n ∧ i = .int .i64 k ∧ Hid (∀ j, j < k → nmP T s j = false) ∧ Below w.heap.size w wr) (fun i _ => n - (intOf i).toNat)
  case atStart => exact ⟨0, by omega, rfl, fun j hj => by omega, Below.refl _ _⟩
  case round =>
    obtain ⟨k, hk, rfl, hj, hb⟩ := hrel
    have hzr := hb.size
    by_cases hkn : k < n
    · obtain ⟨blk, off, dk, rfl, h1, h2, h3⟩ := (hv.below hb hhi).at_ (by omega) (by omega)
      obtain ⟨t1, t2, t3, t4, t5, t6, t7⟩ := h3 k hkn
      clear h3
      obtain ⟨Ak, ckk, ek, _, _⟩ := t6.open_
      rw [ek] at t5
      clear t6
      have HP := hide ((hb.cell (p := ⟨p, 0, none⟩) lp).trans hp)
      cases e1 : nmP T s k with
      | false =>
        have HG := hide e1
        have e2 : ((T k).s.toList == s.toList) = false := e1
        go_wp2_with (go_at_call 116; refine (findTeam1_any (T k) _ s p _ HP.out (by omega) ⟨_, _, _, rfl⟩).mono ?_; rintro e w1 ⟨rfl, hb1⟩; have hz1 := hb1.size; (try (simp at hz1)); obtain ⟨hcw1, hfw1⟩ := bcell hb1; (try (have hy1 : w.heap.size < w1.heap.size := by omega)); (try (have hyy1 : w.heap.size + 1 < w1.heap.size := by omega)); (try (have hyyy1 : w.heap.size + 1 + 1 < w1.heap.size := by omega)))
        go_roundw
        case rel => exact ⟨k + 1, by omega, by go_num, upto_snocF hj.out HG.out, (by repeat (first | (with_reducible exact Below.refl _ _) | (with_reducible refine below_ov ?_ ?_) | (with_reducible refine Below.setCell ?_ ?_ _) | (with_reducible refine Below.alloc ?_ ?_ _) | (with_reducible refine Below.drew ?_) | (with_reducible refine below_drewN ?_ _) | (refine Below.trans ?_ (Below.mono ‹Below _ _ _› (by first | omega | (simp; done) | (simp; omega)))) | exact Below.refl _ _ | omega | (focus (simp; done)) | (focus (simp; omega))))⟩
        case measure => simp [intOf]; omega
      | true =>
        have HG : Hid (fstI (nmP T s) n = k) := fstI_at hkn hj.out e1
        have e2 : ((T k).s.toList == s.toList) = true := e1
        go_wp2_with (go_at_call 116; refine (findTeam1_any (T k) _ s p _ HP.out (by omega) ⟨_, _, _, rfl⟩).mono ?_; rintro e w1 ⟨rfl, hb1⟩; have hz1 := hb1.size; (try (simp at hz1)); obtain ⟨hcw1, hfw1⟩ := bcell hb1; (try (have hy1 : w.heap.size < w1.heap.size := by omega)); (try (have hyy1 : w.heap.size + 1 < w1.heap.size := by omega)); (try (have hyyy1 : w.heap.size + 1 + 1 < w1.heap.size := by omega)))
        go_ret
        exact ⟨ret_int HG.out.symm, (by repeat (first | (with_reducible exact Below.refl _ _) | (with_reducible refine below_ov ?_ ?_) | (with_reducible refine Below.setCell ?_ ?_ _) | (with_reducible refine Below.alloc ?_ ?_ _) | (with_reducible refine Below.drew ?_) | (with_reducible refine below_drewN ?_ _) | (refine Below.trans ?_ (Below.mono ‹Below _ _ _› (by first | omega | (simp; done) | (simp; omega)))) | exact Below.refl _ _ | omega | (focus (simp; done)) | (focus (simp; omega))))⟩
    · obtain rfl : k = n := by omega
      go_wp2_with fail
      go_ret
      exact ⟨ret_int (fstI_none hj.out).symm, hb⟩
set_option maxRecDepth 100000 in
set_option maxHeartbeats 1600000 in
theorem findTeam_any (T : Nat → Tm) (n : Nat) (s : ByteArray) (lo hi : Nat) (v : Value) (w : World) (hv : SlT w lo hi v n T) (hhi : hi ≤ w.heap.size) (hn : n ≤ 1048576) :
    Calls Try.prog 63 #[v, .string s] w fun e w' => e = .returned (.int .i64 (fstI (nmP T s) n)) ∧ Below w.heap.size w w' := by
  go_enter Try.func63, Try.ntmps63
  go_wp2_with fail
  refine (IndexFuncT_any T n s lo hi _ _ _ (hv.below (B := w.heap.size) (by repeat (first | (with_reducible exact Below.refl _ _) | (with_reducible refine below_ov ?_ ?_) | (with_reducible refine Below.setCell ?_ ?_ _) | (with_reducible refine Below.alloc ?_ ?_ _) | (with_reducible refine Below.drew ?_) | (with_reducible refine below_drewN ?_ _) | (refine Below.trans ?_ (Below.mono ‹Below _ _ _› (by first | omega | (simp; done) | (simp; omega)))) | exact Below.refl _ _ | omega | (focus (simp; done)) | (focus (simp; omega)))) hhi) (by simp <;> omega) hn (World.cell?_alloc_new _ _ _ _) (by simp <;> omega)).mono ?_
  rintro e w1 ⟨rfl, hb1⟩
  have hz1 := hb1.size
  go_wp2_with fail
  go_ret
  exact ⟨rfl, (by repeat (first | (with_reducible exact Below.refl _ _) | (with_reducible refine below_ov ?_ ?_) | (with_reducible refine Below.setCell ?_ ?_ _) | (with_reducible refine Below.alloc ?_ ?_ _) | (with_reducible refine Below.drew ?_) | (with_reducible refine below_drewN ?_ _) | (refine Below.trans ?_ (Below.mono ‹Below _ _ _› (by first | omega | (simp; done) | (simp; omega)))) | exact Below.refl _ _ | omega | (focus (simp; done)) | (focus (simp; omega))))⟩
set_option maxRecDepth 100000 in
set_option maxHeartbeats 1600000 in
theorem enFind_any (T : Nat → Tm) (n : Nat) (s : ByteArray) (lo hi : Nat) (v : Value) (w : World) (hv : SlT w lo hi v n T) (hhi : hi ≤ w.heap.size) (hn : n ≤ 1048576) :
    Calls Try.prog 60 #[v, .string s] w fun e w' => e = .returned (.tuple #[.int .i64 (fdK T n s), .bool (fdB T n s)]) ∧ Below w.heap.size w w' := by
  obtain ⟨A, cap, rfl, hcap⟩ := hv.open_
  go_enter Try.func60, Try.ntmps60
  go_wp2_with fail
  go_loopw [6] (fun i wr => ∃ k : Nat, k ≤ n ∧ i = .int .i64 k ∧ Hid (∀ j, j < k → ltS (T j).s s = true) ∧ wr = w) (fun i _ => n - (intOf i).toNat)
  case atStart => exact ⟨0, by omega, rfl, fun j hj => by omega, rfl⟩
  case round =>
    obtain ⟨k, hk, rfl, hj, rfl⟩ := hrel
    by_cases hkn : k < n
    · obtain ⟨blk, off, dk, rfl, h1, h2, h3⟩ := hv.at_ hhi (by omega)
      have t1 := (h3 k hkn).c0
      have l0 : blk < wr.heap.size := by omega
      clear h3
      cases e1 : Op.bytesLess (T k).s.toList s.toList with
      | true =>
        have HG : Hid (ltS (T k).s s = true) := e1
        go_wp2_with fail
        go_roundw
        case rel => exact ⟨k + 1, by omega, by go_num, upto_snoc hj.out HG.out, by trivial⟩
        case measure => simp [intOf]; omega
      | false =>
        have HK : Hid (fdK T n s = k) := lead_eq hk hj.out (.inr e1)
        have d1 : decide ((k : Int) < (n : Int)) = true := decide_eq_true (by omega)
        cases e2 : ((T k).s.toList == s.toList) with
        | true =>
          have HB : Hid (fdB T n s = true) := by show _ = _; rw [fdB, HK.out]; simp [hkn, nmP, e2]
          go_wp2_with fail
          go_quiet (fail)
          go_wp2
          go_ret2
          rw [HB.out, HK.out]
          exact ⟨rfl, (by repeat (first | (with_reducible exact Below.refl _ _) | (with_reducible refine below_ov ?_ ?_) | (with_reducible refine Below.setCell ?_ ?_ _) | (with_reducible refine Below.alloc ?_ ?_ _) | (with_reducible refine Below.drew ?_) | (with_reducible refine below_drewN ?_ _) | (refine Below.trans ?_ (Below.mono ‹Below _ _ _› (by first | omega | (simp; done) | (simp; omega)))) | exact Below.refl _ _ | omega | (focus (simp; done)) | (focus (simp; omega))))⟩
        | false =>
          have HB : Hid (fdB T n s = false) := by show _ = _; rw [fdB, HK.out]; simp [nmP, e2]
          go_wp2_with fail
          go_quiet (fail)
          go_wp2
          go_ret2
          rw [HB.out, HK.out]
          exact ⟨rfl, (by repeat (first | (with_reducible exact Below.refl _ _) | (with_reducible refine below_ov ?_ ?_) | (with_reducible refine Below.setCell ?_ ?_ _) | (with_reducible refine Below.alloc ?_ ?_ _) | (with_reducible refine Below.drew ?_) | (with_reducible refine below_drewN ?_ _) | (refine Below.trans ?_ (Below.mono ‹Below _ _ _› (by first | omega | (simp; done) | (simp; omega)))) | exact Below.refl _ _ | omega | (focus (simp; done)) | (focus (simp; omega))))⟩
    · obtain rfl : k = n := by omega
      have HK : Hid (fdK T k s = k) := lead_eq hk hj.out (.inl rfl)
      have HB : Hid (fdB T k s = false) := by show _ = _; rw [fdB, HK.out]; simp
      have d1 : decide ((k : Int) < (k : Int)) = false := decide_eq_false (by omega)
      go_wp2_with fail
      go_quiet (fail)
      go_wp2
      go_ret2
      rw [HB.out, HK.out]
      exact ⟨rfl, (by repeat (first | (with_reducible exact Below.refl _ _) | (with_reducible refine below_ov ?_ ?_) | (with_reducible refine Below.setCell ?_ ?_ _) | (with_reducible refine Below.alloc ?_ ?_ _) | (with_reducible refine Below.drew ?_) | (with_reducible refine below_drewN ?_ _) | (refine Below.trans ?_ (Below.mono ‹Below _ _ _› (by first | omega | (simp; done) | (simp; omega)))) | exact Below.refl _ _ | omega | (focus (simp; done)) | (focus (simp; omega))))⟩

end Go.Proofs.Ytpakjmiallhgnaa
