/-
  Texts of this proof, one behind the other (part 5).
-/
import Derived.Test.YtnmmkechkcfjnaaGreatDoorQ4
/-
  Walks: which lists are periods: the program's check and the reference's.-/
namespace Go.Proofs.YtnmmkechkcfjnaaGreatDoor
set_option linter.unusedVariables false
set_option linter.unusedSimpArgs false
open Go.RowKit

/-- Names that can lie in memory. -/
def pfits (c : Nat → ByteArray) (n : Nat) : Prop := n ≤ 1048576 ∧ ∀ i, i < n → (c i).size ≤ maxLen
set_option maxRecDepth 100000 in
set_option maxHeartbeats 1600000 in
theorem periodBefore_any (c : Nat → ByteArray) (a b : Nat → Int) (n i lo hi : Nat) (v : Value) (w : World) (hv : Sl w lo hi 3 v n (siiC c a b)) (hhi : hi ≤ w.heap.size) (hn : n ≤ 1048576) (hi' : i < n) :
    Calls Tryz.prog 42 #[v, .int .i64 i] w fun e w' => e = .returned (.int .i64 (befI c i)) ∧ Below w.heap.size w w' := by
  obtain ⟨A, cap, rfl, hcap, hA⟩ := hv.open_
  obtain ⟨blk, off, rfl, h1, h2, h3⟩ := hA (by omega)
  have ci : w.cell? ⟨blk, off + i * 3, none⟩ = some (.string (c i)) := h3 i 0 hi' (by omega)
  have H3 := hide h3
  clear h3 hv hA
  go_enter Tryz.func42, Tryz.ntmps42
  go_wp2_with fail
  go_loopw [5] (fun k wr => ∃ m : Nat, m ≤ i ∧ k = .int .i64 ((m : Int) - 1) ∧ Hid (∀ j, m ≤ j → j < i → crewI c (c i) j = false) ∧ Below w.heap.size w wr) (fun k _ => (intOf k + 1).toNat)
  case atStart => exact ⟨i, by omega, by go_num, fun j h1 h2 => by omega, Below.refl _ _⟩
  case round =>
    obtain ⟨m, hm, rfl, hj, hb⟩ := hrel
    have ci' := (hb.cell (p := ⟨blk, off + i * 3, none⟩) (by show blk < _; omega)).trans ci
    have l0 : blk < wr.heap.size := by have := hb.size; omega
    rcases Nat.eq_zero_or_pos m with h0 | h0
    · have d0 : decide ((m : Int) - 1 ≥ 0) = false := by simp; omega
      have d1 : decide ((1 : Int) ≤ (m : Int)) = false := by simp; omega
      have HE : Hid (befI c i = -1) := by
        show _ = _
        refine lstI_none fun j hj' => hj.out j (by omega) hj'
      clear h0
      go_wp2_with fail
      go_ret
      exact ⟨ret_int HE.out.symm, hb⟩
    · obtain ⟨m', rfl⟩ : ∃ m' : Nat, m = m' + 1 := ⟨m - 1, by omega⟩
      have cm := (hb.cell (p := ⟨blk, off + m' * 3, none⟩) (by show blk < _; omega)).trans (H3.out m' 0 (by omega) (by omega))
      have cm' : wr.cell? ⟨blk, off + m' * 3, none⟩ = some (.string (c m')) := cm
      have e : (((m' + 1 : Nat) : Int) - 1) = (m' : Int) := by omega
      rw [e]
      clear cm e
      cases e0 : ((c m').toList == (c i).toList) with
      | true =>
        have HE : Hid (befI c i = m') := by
          show _ = _
          rw [str_beq] at e0
          exact lstI_at (by omega) e0 fun j h1 h2 => hj.out j (by omega) h2
        go_wp2_with fail
        go_quiet (fail)
        go_wp2_with fail
        go_ret
        exact ⟨ret_int HE.out.symm, (by repeat (first | (with_reducible exact Below.refl _ _) | (with_reducible refine below_ov ?_ ?_) | (with_reducible refine Below.setCell ?_ ?_ _) | (with_reducible refine Below.alloc ?_ ?_ _) | (with_reducible refine Below.drew ?_) | (with_reducible refine below_drewN ?_ _) | (refine Below.trans ?_ (Below.mono ‹Below _ _ _› (by first | omega | (simp; done) | (simp; omega)))) | exact Below.refl _ _ | omega | (focus (simp; done)) | (focus (simp; omega))))⟩
      | false =>
        have HG : Hid (crewI c (c i) m' = false) := by show _ = _; rw [str_beq] at e0; exact e0
        go_wp2_with fail
        go_quiet (fail)
        go_wp2_with fail
        go_roundw
        case rel => exact ⟨m', by omega, by go_num, fun j h1 h2 => by
          rcases Nat.lt_or_ge m' j with h3 | h3
          · exact hj.out j h3 h2
          · obtain rfl : j = m' := by omega
            exact HG.out, (by repeat (first | (with_reducible exact Below.refl _ _) | (with_reducible refine below_ov ?_ ?_) | (with_reducible refine Below.setCell ?_ ?_ _) | (with_reducible refine Below.alloc ?_ ?_ _) | (with_reducible refine Below.drew ?_) | (with_reducible refine below_drewN ?_ _) | (refine Below.trans ?_ (Below.mono ‹Below _ _ _› (by first | omega | (simp; done) | (simp; omega)))) | exact Below.refl _ _ | omega | (focus (simp; done)) | (focus (simp; omega))))⟩
        case measure => simp [intOf]
set_option maxRecDepth 100000 in
set_option maxHeartbeats 1600000 in
theorem arePeriods_any (c : Nat → ByteArray) (a b : Nat → Int) (n lo hi : Nat) (v : Value) (w : World) (hv : Sl w lo hi 3 v n (siiC c a b)) (hhi : hi ≤ w.heap.size) (hf : pfits c n) :
    Calls Tryz.prog 41 #[v] w fun e w' => e = .returned (.bool (pdB c a b n)) ∧ Below w.heap.size w w' := by
  rw [pdB, ← prs_eq]
  obtain ⟨A, cap, rfl, hcap, hA⟩ := hv.open_
  obtain ⟨hn, hsz⟩ := hf
  go_enter Tryz.func41, Tryz.ntmps41
  go_wp2_with fail
  go_loopw [8] (fun i wr => ∃ k : Nat, k ≤ n ∧ i = .int .i64 k ∧ Hid (∀ j, j < k → prP c a b j = true) ∧ Below w.heap.size w wr) (fun i _ => n - (intOf i).toNat)
  case atStart => exact ⟨0, by omega, rfl, fun j hj => by omega, Below.refl _ _⟩
  case round =>
    obtain ⟨k, hk, rfl, hj, hb⟩ := hrel
    have hzr := hb.size
    by_cases hkn : k < n
    · obtain ⟨blk, off, rfl, h1, h2, h3⟩ := (hA.below hb (by omega)) (by omega)
      have c0 : wr.cell? ⟨blk, off + k * 3, none⟩ = some (.string (c k)) := h3 k 0 hkn (by omega)
      have c1 : wr.cell? ⟨blk, off + k * 3 + 1, none⟩ = some (.int .i64 (a k)) := h3 k 1 hkn (by omega)
      have c2 : wr.cell? ⟨blk, off + k * 3 + 2, none⟩ = some (.int .i64 (b k)) := h3 k 2 hkn (by omega)
      have H3 := hide h3
      have l0 : blk < wr.heap.size := by omega
      clear h3 hA
      cases e1 : perB (c k) (a k) (b k) with
      | false =>
        have HF : Hid ((allB (prP c a b) n && decide ((n : Int) ≤ 12)) = false) := by show _ = _; rw [allB_false hkn (by simp [prP, e1])]; rfl
        go_wp2_with fail
        (refine wp_region_below_lit (by kernel_rfl) (by kernel_rfl) ?_; (repeat (first | go_big_quiet_step ((first | (go_at_call 45; exact quiet_ov (isPeriod_any _ _ _ _ (hsz k hkn))) | (go_at_call 47; exact quiet_ov (comparePeriods_any _ _ _ _ _ _ _)))) | quiet_step ((first | (go_at_call 45; exact quiet_ov (isPeriod_any _ _ _ _ (hsz k hkn))) | (go_at_call 47; exact quiet_ov (comparePeriods_any _ _ _ _ _ _ _)))))); refine wpQuiet_nil ?_; intro w2 hb2; have hz2 := hb2.size; (try (simp at hz2)); obtain ⟨hcw2, hfw2⟩ := bcell hb2; (try (have hy2 : w.heap.size < w2.heap.size := by omega)); (try (have hyy2 : w.heap.size + 1 < w2.heap.size := by omega)))
        go_wp2_with fail
        go_ret
        exact ⟨ret_bool HF.out.symm, (by repeat (first | (with_reducible exact Below.refl _ _) | (with_reducible refine below_ov ?_ ?_) | (with_reducible refine Below.setCell ?_ ?_ _) | (with_reducible refine Below.alloc ?_ ?_ _) | (with_reducible refine Below.drew ?_) | (with_reducible refine below_drewN ?_ _) | (refine Below.trans ?_ (Below.mono ‹Below _ _ _› (by first | omega | (simp; done) | (simp; omega)))) | exact Below.refl _ _ | omega | (focus (simp; done)) | (focus (simp; omega))))⟩
      | true =>
        rcases Nat.eq_zero_or_pos k with h0 | h0
        · have HO : Hid (ordI c a k = true) := by show _ = _; rw [ordI]; simp [h0]
          have d0 : decide (0 < k) = false := by simp; omega
          have dk : decide (k = 0) = true := by simp; omega
          clear h0
          cases e3 : decide (0 ≤ befI c k) with
          | false =>
            have HG : Hid (prP c a b k = true) := by show _ = _; simp [prP, e1, HO.out, e3]
            go_wp2_with fail
            (refine wp_region_below_lit (by kernel_rfl) (by kernel_rfl) ?_; (repeat (first | go_big_quiet_step ((first | (go_at_call 45; exact quiet_ov (isPeriod_any _ _ _ _ (hsz k hkn))) | (go_at_call 47; exact quiet_ov (comparePeriods_any _ _ _ _ _ _ _)))) | quiet_step ((first | (go_at_call 45; exact quiet_ov (isPeriod_any _ _ _ _ (hsz k hkn))) | (go_at_call 47; exact quiet_ov (comparePeriods_any _ _ _ _ _ _ _)))))); refine wpQuiet_nil ?_; intro w2 hb2; have hz2 := hb2.size; (try (simp at hz2)); obtain ⟨hcw2, hfw2⟩ := bcell hb2; (try (have hy2 : w.heap.size < w2.heap.size := by omega)); (try (have hyy2 : w.heap.size + 1 < w2.heap.size := by omega)))
            go_wp2_with (go_at_call 42; refine (periodBefore_any c a b n k lo hi _ _ (hv.below (B := w.heap.size) (by repeat (first | (with_reducible exact Below.refl _ _) | (with_reducible refine below_ov ?_ ?_) | (with_reducible refine Below.setCell ?_ ?_ _) | (with_reducible refine Below.alloc ?_ ?_ _) | (with_reducible refine Below.drew ?_) | (with_reducible refine below_drewN ?_ _) | (refine Below.trans ?_ (Below.mono ‹Below _ _ _› (by first | omega | (simp; done) | (simp; omega)))) | exact Below.refl _ _ | omega | (focus (simp; done)) | (focus (simp; omega)))) hhi) (by omega) hn hkn).mono ?_; rintro e w3 ⟨rfl, hb3⟩; have hz3 := hb3.size; (try (simp at hz3)); obtain ⟨hcw3, hfw3⟩ := bcell hb3; (try (have hy3 : w.heap.size < w3.heap.size := by omega)); (try (have hyy3 : w.heap.size + 1 < w3.heap.size := by omega)); (try (have hyyy3 : w.heap.size + 1 + 1 < w3.heap.size := by omega)))
            go_quiet (fail)
            go_wp2_with fail
            go_roundw
            case rel => exact ⟨k + 1, by omega, by go_num, upto_snoc hj.out HG.out, (by repeat (first | (with_reducible exact Below.refl _ _) | (with_reducible refine below_ov ?_ ?_) | (with_reducible refine Below.setCell ?_ ?_ _) | (with_reducible refine Below.alloc ?_ ?_ _) | (with_reducible refine Below.drew ?_) | (with_reducible refine below_drewN ?_ _) | (refine Below.trans ?_ (Below.mono ‹Below _ _ _› (by first | omega | (simp; done) | (simp; omega)))) | exact Below.refl _ _ | omega | (focus (simp; done)) | (focus (simp; omega))))⟩
            case measure => simp [intOf]; omega
          | true =>
            obtain ⟨m, hm⟩ : ∃ m : Nat, befI c k = m := ⟨(befI c k).toNat, by have := of_decide_eq_true e3; omega⟩
            obtain ⟨m1, m2, _⟩ := befI_facts hm
            have dm := H3.out m 2 (by omega) (by omega)
            have dm' : wr.cell? ⟨blk, off + m * 3 + 2, none⟩ = some (.int .i64 (b m)) := dm
            have HM := hide hm
            clear dm hm e3
            cases e4 : decide (b m > a k) with
            | true =>
              have HF : Hid ((allB (prP c a b) n && decide ((n : Int) ≤ 12)) = false) := by show _ = _; rw [allB_false hkn (by have := of_decide_eq_true e4; simp [prP, HM.out]; intros; omega)]; rfl
              go_wp2_with fail
              (refine wp_region_below_lit (by kernel_rfl) (by kernel_rfl) ?_; (repeat (first | go_big_quiet_step ((first | (go_at_call 45; exact quiet_ov (isPeriod_any _ _ _ _ (hsz k hkn))) | (go_at_call 47; exact quiet_ov (comparePeriods_any _ _ _ _ _ _ _)))) | quiet_step ((first | (go_at_call 45; exact quiet_ov (isPeriod_any _ _ _ _ (hsz k hkn))) | (go_at_call 47; exact quiet_ov (comparePeriods_any _ _ _ _ _ _ _)))))); refine wpQuiet_nil ?_; intro w2 hb2; have hz2 := hb2.size; (try (simp at hz2)); obtain ⟨hcw2, hfw2⟩ := bcell hb2; (try (have hy2 : w.heap.size < w2.heap.size := by omega)); (try (have hyy2 : w.heap.size + 1 < w2.heap.size := by omega)))
              go_wp2_with fail
              refine (periodBefore_any c a b n k lo hi _ _ (hv.below (B := w.heap.size) (by repeat (first | (with_reducible exact Below.refl _ _) | (with_reducible refine below_ov ?_ ?_) | (with_reducible refine Below.setCell ?_ ?_ _) | (with_reducible refine Below.alloc ?_ ?_ _) | (with_reducible refine Below.drew ?_) | (with_reducible refine below_drewN ?_ _) | (refine Below.trans ?_ (Below.mono ‹Below _ _ _› (by first | omega | (simp; done) | (simp; omega)))) | exact Below.refl _ _ | omega | (focus (simp; done)) | (focus (simp; omega)))) hhi) (by omega) hn hkn).mono ?_
              rintro e w3 ⟨rfl, hb3⟩
              rw [HM.out]
              have hz3 := hb3.size
              have dm3 := (hb3.cell (p := ⟨blk, off + m * 3 + 2, none⟩) (by show blk < w2.heap.size; omega)).trans ((hb2.cell (p := ⟨blk, off + m * 3 + 2, none⟩) (by simp; omega)).trans ((World.cell?_alloc_lt _ _ _ l0).trans dm'))
              have pa3 := (hb3.cell (p := ⟨wr.heap.size, 1, none⟩) (by show wr.heap.size < w2.heap.size; omega)).trans ((hb2.cell (p := ⟨wr.heap.size, 1, none⟩) (by simp)).trans (World.cell?_alloc_new _ _ _ _))
              simp at pa3
              have i0 : (0 : Int) ≤ (m : Int) := by omega
              have i1 : (m : Int) < (n : Int) := by omega
              go_wp2_with fail
              go_quiet (fail)
              go_wp2_with fail
              go_ret
              exact ⟨ret_bool HF.out.symm, (by repeat (first | (with_reducible exact Below.refl _ _) | (with_reducible refine below_ov ?_ ?_) | (with_reducible refine Below.setCell ?_ ?_ _) | (with_reducible refine Below.alloc ?_ ?_ _) | (with_reducible refine Below.drew ?_) | (with_reducible refine below_drewN ?_ _) | (refine Below.trans ?_ (Below.mono ‹Below _ _ _› (by first | omega | (simp; done) | (simp; omega)))) | exact Below.refl _ _ | omega | (focus (simp; done)) | (focus (simp; omega))))⟩
            | false =>
              have HG : Hid (prP c a b k = true) := by
                show _ = _
                have := of_decide_eq_false e4
                simp [prP, e1, HO.out, HM.out]; omega
              go_wp2_with fail
              (refine wp_region_below_lit (by kernel_rfl) (by kernel_rfl) ?_; (repeat (first | go_big_quiet_step ((first | (go_at_call 45; exact quiet_ov (isPeriod_any _ _ _ _ (hsz k hkn))) | (go_at_call 47; exact quiet_ov (comparePeriods_any _ _ _ _ _ _ _)))) | quiet_step ((first | (go_at_call 45; exact quiet_ov (isPeriod_any _ _ _ _ (hsz k hkn))) | (go_at_call 47; exact quiet_ov (comparePeriods_any _ _ _ _ _ _ _)))))); refine wpQuiet_nil ?_; intro w2 hb2; have hz2 := hb2.size; (try (simp at hz2)); obtain ⟨hcw2, hfw2⟩ := bcell hb2; (try (have hy2 : w.heap.size < w2.heap.size := by omega)); (try (have hyy2 : w.heap.size + 1 < w2.heap.size := by omega)))
              go_wp2_with fail
              refine (periodBefore_any c a b n k lo hi _ _ (hv.below (B := w.heap.size) (by repeat (first | (with_reducible exact Below.refl _ _) | (with_reducible refine below_ov ?_ ?_) | (with_reducible refine Below.setCell ?_ ?_ _) | (with_reducible refine Below.alloc ?_ ?_ _) | (with_reducible refine Below.drew ?_) | (with_reducible refine below_drewN ?_ _) | (refine Below.trans ?_ (Below.mono ‹Below _ _ _› (by first | omega | (simp; done) | (simp; omega)))) | exact Below.refl _ _ | omega | (focus (simp; done)) | (focus (simp; omega)))) hhi) (by omega) hn hkn).mono ?_
              rintro e w3 ⟨rfl, hb3⟩
              rw [HM.out]
              have hz3 := hb3.size
              have dm3 := (hb3.cell (p := ⟨blk, off + m * 3 + 2, none⟩) (by show blk < w2.heap.size; omega)).trans ((hb2.cell (p := ⟨blk, off + m * 3 + 2, none⟩) (by simp; omega)).trans ((World.cell?_alloc_lt _ _ _ l0).trans dm'))
              have pa3 := (hb3.cell (p := ⟨wr.heap.size, 1, none⟩) (by show wr.heap.size < w2.heap.size; omega)).trans ((hb2.cell (p := ⟨wr.heap.size, 1, none⟩) (by simp)).trans (World.cell?_alloc_new _ _ _ _))
              simp at pa3
              have i0 : (0 : Int) ≤ (m : Int) := by omega
              have i1 : (m : Int) < (n : Int) := by omega
              go_wp2_with fail
              go_quiet (fail)
              go_wp2_with fail
              go_roundw
              case rel => exact ⟨k + 1, by omega, by go_num, upto_snoc hj.out HG.out, (by repeat (first | (with_reducible exact Below.refl _ _) | (with_reducible refine below_ov ?_ ?_) | (with_reducible refine Below.setCell ?_ ?_ _) | (with_reducible refine Below.alloc ?_ ?_ _) | (with_reducible refine Below.drew ?_) | (with_reducible refine below_drewN ?_ _) | (refine Below.trans ?_ (Below.mono ‹Below _ _ _› (by first | omega | (simp; done) | (simp; omega)))) | exact Below.refl _ _ | omega | (focus (simp; done)) | (focus (simp; omega))))⟩
              case measure => simp [intOf]; omega
        · have d0 : decide (0 < k) = true := by simp; omega
          have dk : decide (k = 0) = false := by simp; omega
          have z1 : IntKind.i64.wrap ((k : Int) - 1) = (k : Int) - 1 := IntWalk.i64_in _ (by omega)
          have z2 : ((k : Int) - 1).toNat = k - 1 := by omega
          have p0 : wr.cell? ⟨blk, off + (k - 1) * 3, none⟩ = some (.string (c (k - 1))) := H3.out (k - 1) 0 (by omega) (by omega)
          have p1 : wr.cell? ⟨blk, off + (k - 1) * 3 + 1, none⟩ = some (.int .i64 (a (k - 1))) := H3.out (k - 1) 1 (by omega) (by omega)
          have p2 : wr.cell? ⟨blk, off + (k - 1) * 3 + 2, none⟩ = some (.int .i64 (b (k - 1))) := H3.out (k - 1) 2 (by omega) (by omega)
          cases e2 : decide (0 ≤ cmpP (c (k - 1)) (a (k - 1)) (c k) (a k)) with
          | true =>
            have HF : Hid ((allB (prP c a b) n && decide ((n : Int) ≤ 12)) = false) := by
              show _ = _
              rw [cmpP_neg] at e2
              rw [allB_false hkn (by simp at e2; simp [prP, ordI, e2]; omega)]; rfl
            go_wp2_with fail
            (refine wp_region_below_lit (by kernel_rfl) (by kernel_rfl) ?_; (repeat (first | go_big_quiet_step ((first | (go_at_call 45; exact quiet_ov (isPeriod_any _ _ _ _ (hsz k hkn))) | (go_at_call 47; exact quiet_ov (comparePeriods_any _ _ _ _ _ _ _)))) | quiet_step ((first | (go_at_call 45; exact quiet_ov (isPeriod_any _ _ _ _ (hsz k hkn))) | (go_at_call 47; exact quiet_ov (comparePeriods_any _ _ _ _ _ _ _)))))); refine wpQuiet_nil ?_; intro w2 hb2; have hz2 := hb2.size; (try (simp at hz2)); obtain ⟨hcw2, hfw2⟩ := bcell hb2; (try (have hy2 : w.heap.size < w2.heap.size := by omega)); (try (have hyy2 : w.heap.size + 1 < w2.heap.size := by omega)))
            go_wp2_with fail
            go_ret
            exact ⟨ret_bool HF.out.symm, (by repeat (first | (with_reducible exact Below.refl _ _) | (with_reducible refine below_ov ?_ ?_) | (with_reducible refine Below.setCell ?_ ?_ _) | (with_reducible refine Below.alloc ?_ ?_ _) | (with_reducible refine Below.drew ?_) | (with_reducible refine below_drewN ?_ _) | (refine Below.trans ?_ (Below.mono ‹Below _ _ _› (by first | omega | (simp; done) | (simp; omega)))) | exact Below.refl _ _ | omega | (focus (simp; done)) | (focus (simp; omega))))⟩
          | false =>
            have HO : Hid (ordI c a k = true) := by
              show _ = _
              rw [cmpP_neg] at e2
              simp at e2
              simp [ordI, e2]
            cases e3 : decide (0 ≤ befI c k) with
            | false =>
              have HG : Hid (prP c a b k = true) := by show _ = _; simp [prP, e1, HO.out, e3]
              go_wp2_with fail
              (refine wp_region_below_lit (by kernel_rfl) (by kernel_rfl) ?_; (repeat (first | go_big_quiet_step ((first | (go_at_call 45; exact quiet_ov (isPeriod_any _ _ _ _ (hsz k hkn))) | (go_at_call 47; exact quiet_ov (comparePeriods_any _ _ _ _ _ _ _)))) | quiet_step ((first | (go_at_call 45; exact quiet_ov (isPeriod_any _ _ _ _ (hsz k hkn))) | (go_at_call 47; exact quiet_ov (comparePeriods_any _ _ _ _ _ _ _)))))); refine wpQuiet_nil ?_; intro w2 hb2; have hz2 := hb2.size; (try (simp at hz2)); obtain ⟨hcw2, hfw2⟩ := bcell hb2; (try (have hy2 : w.heap.size < w2.heap.size := by omega)); (try (have hyy2 : w.heap.size + 1 < w2.heap.size := by omega)))
              go_wp2_with (go_at_call 42; refine (periodBefore_any c a b n k lo hi _ _ (hv.below (B := w.heap.size) (by repeat (first | (with_reducible exact Below.refl _ _) | (with_reducible refine below_ov ?_ ?_) | (with_reducible refine Below.setCell ?_ ?_ _) | (with_reducible refine Below.alloc ?_ ?_ _) | (with_reducible refine Below.drew ?_) | (with_reducible refine below_drewN ?_ _) | (refine Below.trans ?_ (Below.mono ‹Below _ _ _› (by first | omega | (simp; done) | (simp; omega)))) | exact Below.refl _ _ | omega | (focus (simp; done)) | (focus (simp; omega)))) hhi) (by omega) hn hkn).mono ?_; rintro e w3 ⟨rfl, hb3⟩; have hz3 := hb3.size; (try (simp at hz3)); obtain ⟨hcw3, hfw3⟩ := bcell hb3; (try (have hy3 : w.heap.size < w3.heap.size := by omega)); (try (have hyy3 : w.heap.size + 1 < w3.heap.size := by omega)); (try (have hyyy3 : w.heap.size + 1 + 1 < w3.heap.size := by omega)))
              go_quiet (fail)
              go_wp2_with fail
              go_roundw
              case rel => exact ⟨k + 1, by omega, by go_num, upto_snoc hj.out HG.out, (by repeat (first | (with_reducible exact Below.refl _ _) | (with_reducible refine below_ov ?_ ?_) | (with_reducible refine Below.setCell ?_ ?_ _) | (with_reducible refine Below.alloc ?_ ?_ _) | (with_reducible refine Below.drew ?_) | (with_reducible refine below_drewN ?_ _) | (refine Below.trans ?_ (Below.mono ‹Below _ _ _› (by first | omega | (simp; done) | (simp; omega)))) | exact Below.refl _ _ | omega | (focus (simp; done)) | (focus (simp; omega))))⟩
              case measure => simp [intOf]; omega
            | true =>
              obtain ⟨m, hm⟩ : ∃ m : Nat, befI c k = m := ⟨(befI c k).toNat, by have := of_decide_eq_true e3; omega⟩
              obtain ⟨m1, m2, _⟩ := befI_facts hm
              have dm := H3.out m 2 (by omega) (by omega)
              have dm' : wr.cell? ⟨blk, off + m * 3 + 2, none⟩ = some (.int .i64 (b m)) := dm
              have HM := hide hm
              clear dm hm e3
              cases e4 : decide (b m > a k) with
              | true =>
                have HF : Hid ((allB (prP c a b) n && decide ((n : Int) ≤ 12)) = false) := by show _ = _; rw [allB_false hkn (by have := of_decide_eq_true e4; simp [prP, HM.out]; intros; omega)]; rfl
                go_wp2_with fail
                (refine wp_region_below_lit (by kernel_rfl) (by kernel_rfl) ?_; (repeat (first | go_big_quiet_step ((first | (go_at_call 45; exact quiet_ov (isPeriod_any _ _ _ _ (hsz k hkn))) | (go_at_call 47; exact quiet_ov (comparePeriods_any _ _ _ _ _ _ _)))) | quiet_step ((first | (go_at_call 45; exact quiet_ov (isPeriod_any _ _ _ _ (hsz k hkn))) | (go_at_call 47; exact quiet_ov (comparePeriods_any _ _ _ _ _ _ _)))))); refine wpQuiet_nil ?_; intro w2 hb2; have hz2 := hb2.size; (try (simp at hz2)); obtain ⟨hcw2, hfw2⟩ := bcell hb2; (try (have hy2 : w.heap.size < w2.heap.size := by omega)); (try (have hyy2 : w.heap.size + 1 < w2.heap.size := by omega)))
                go_wp2_with fail
                refine (periodBefore_any c a b n k lo hi _ _ (hv.below (B := w.heap.size) (by repeat (first | (with_reducible exact Below.refl _ _) | (with_reducible refine below_ov ?_ ?_) | (with_reducible refine Below.setCell ?_ ?_ _) | (with_reducible refine Below.alloc ?_ ?_ _) | (with_reducible refine Below.drew ?_) | (with_reducible refine below_drewN ?_ _) | (refine Below.trans ?_ (Below.mono ‹Below _ _ _› (by first | omega | (simp; done) | (simp; omega)))) | exact Below.refl _ _ | omega | (focus (simp; done)) | (focus (simp; omega)))) hhi) (by omega) hn hkn).mono ?_
                rintro e w3 ⟨rfl, hb3⟩
                rw [HM.out]
                have hz3 := hb3.size
                have dm3 := (hb3.cell (p := ⟨blk, off + m * 3 + 2, none⟩) (by show blk < w2.heap.size; omega)).trans ((hb2.cell (p := ⟨blk, off + m * 3 + 2, none⟩) (by simp; omega)).trans ((World.cell?_alloc_lt _ _ _ l0).trans dm'))
                have pa3 := (hb3.cell (p := ⟨wr.heap.size, 1, none⟩) (by show wr.heap.size < w2.heap.size; omega)).trans ((hb2.cell (p := ⟨wr.heap.size, 1, none⟩) (by simp)).trans (World.cell?_alloc_new _ _ _ _))
                simp at pa3
                have i0 : (0 : Int) ≤ (m : Int) := by omega
                have i1 : (m : Int) < (n : Int) := by omega
                go_wp2_with fail
                go_quiet (fail)
                go_wp2_with fail
                go_ret
                exact ⟨ret_bool HF.out.symm, (by repeat (first | (with_reducible exact Below.refl _ _) | (with_reducible refine below_ov ?_ ?_) | (with_reducible refine Below.setCell ?_ ?_ _) | (with_reducible refine Below.alloc ?_ ?_ _) | (with_reducible refine Below.drew ?_) | (with_reducible refine below_drewN ?_ _) | (refine Below.trans ?_ (Below.mono ‹Below _ _ _› (by first | omega | (simp; done) | (simp; omega)))) | exact Below.refl _ _ | omega | (focus (simp; done)) | (focus (simp; omega))))⟩
              | false =>
                have HG : Hid (prP c a b k = true) := by
                  show _ = _
                  have := of_decide_eq_false e4
                  simp [prP, e1, HO.out, HM.out]; omega
                go_wp2_with fail
                (refine wp_region_below_lit (by kernel_rfl) (by kernel_rfl) ?_; (repeat (first | go_big_quiet_step ((first | (go_at_call 45; exact quiet_ov (isPeriod_any _ _ _ _ (hsz k hkn))) | (go_at_call 47; exact quiet_ov (comparePeriods_any _ _ _ _ _ _ _)))) | quiet_step ((first | (go_at_call 45; exact quiet_ov (isPeriod_any _ _ _ _ (hsz k hkn))) | (go_at_call 47; exact quiet_ov (comparePeriods_any _ _ _ _ _ _ _)))))); refine wpQuiet_nil ?_; intro w2 hb2; have hz2 := hb2.size; (try (simp at hz2)); obtain ⟨hcw2, hfw2⟩ := bcell hb2; (try (have hy2 : w.heap.size < w2.heap.size := by omega)); (try (have hyy2 : w.heap.size + 1 < w2.heap.size := by omega)))
                go_wp2_with fail
                refine (periodBefore_any c a b n k lo hi _ _ (hv.below (B := w.heap.size) (by repeat (first | (with_reducible exact Below.refl _ _) | (with_reducible refine below_ov ?_ ?_) | (with_reducible refine Below.setCell ?_ ?_ _) | (with_reducible refine Below.alloc ?_ ?_ _) | (with_reducible refine Below.drew ?_) | (with_reducible refine below_drewN ?_ _) | (refine Below.trans ?_ (Below.mono ‹Below _ _ _› (by first | omega | (simp; done) | (simp; omega)))) | exact Below.refl _ _ | omega | (focus (simp; done)) | (focus (simp; omega)))) hhi) (by omega) hn hkn).mono ?_
                rintro e w3 ⟨rfl, hb3⟩
                rw [HM.out]
                have hz3 := hb3.size
                have dm3 := (hb3.cell (p := ⟨blk, off + m * 3 + 2, none⟩) (by show blk < w2.heap.size; omega)).trans ((hb2.cell (p := ⟨blk, off + m * 3 + 2, none⟩) (by simp; omega)).trans ((World.cell?_alloc_lt _ _ _ l0).trans dm'))
                have pa3 := (hb3.cell (p := ⟨wr.heap.size, 1, none⟩) (by show wr.heap.size < w2.heap.size; omega)).trans ((hb2.cell (p := ⟨wr.heap.size, 1, none⟩) (by simp)).trans (World.cell?_alloc_new _ _ _ _))
                simp at pa3
                have i0 : (0 : Int) ≤ (m : Int) := by omega
                have i1 : (m : Int) < (n : Int) := by omega
                go_wp2_with fail
                go_quiet (fail)
                go_wp2_with fail
                go_roundw
                case rel => exact ⟨k + 1, by omega, by go_num, upto_snoc hj.out HG.out, (by repeat (first | (with_reducible exact Below.refl _ _) | (with_reducible refine below_ov ?_ ?_) | (with_reducible refine Below.setCell ?_ ?_ _) | (with_reducible refine Below.alloc ?_ ?_ _) | (with_reducible refine Below.drew ?_) | (with_reducible refine below_drewN ?_ _) | (refine Below.trans ?_ (Below.mono ‹Below _ _ _› (by first | omega | (simp; done) | (simp; omega)))) | exact Below.refl _ _ | omega | (focus (simp; done)) | (focus (simp; omega))))⟩
                case measure => simp [intOf]; omega
    · obtain rfl : k = n := by omega
      have HE : Hid ((allB (prP c a b) k && decide ((k : Int) ≤ 12)) = decide ((k : Int) ≤ 12)) := by show _ = _; rw [allB_iff.2 hj.out]; rfl
      go_wp2_with fail
      go_ret
      exact ⟨ret_bool HE.out.symm, hb⟩
set_option maxRecDepth 100000 in
set_option maxHeartbeats 1600000 in
theorem rfGood_any (c : Nat → ByteArray) (a b : Nat → Int) (n lo hi : Nat) (v : Value) (w : World) (hv : Sl w lo hi 3 v n (siiC c a b)) (hhi : hi ≤ w.heap.size) (hf : pfits c n) :
    Calls Tryz.prog 50 #[v] w fun e w' => e = .returned (.bool (pdB c a b n)) ∧ Below w.heap.size w w' := by
  obtain ⟨A, cap, rfl, hcap, hA⟩ := hv.open_
  obtain ⟨hn, hsz⟩ := hf
  go_enter Tryz.func50, Tryz.ntmps50
  go_wp2_with fail
  go_loopw [9] (fun i wr => ∃ k : Nat, k ≤ n ∧ i = .int .i64 k ∧ Hid (∀ j, j < k → prS c a b j = true) ∧ Below w.heap.size w wr) (fun i _ => n - (intOf i).toNat)
  case atStart => exact ⟨0, by omega, rfl, fun j hj => by omega, Below.refl _ _⟩
  case round =>
    obtain ⟨k, hk, rfl, hj, hb⟩ := hrel
    have hzr := hb.size
    by_cases hkn : k < n
    · obtain ⟨blk, off, rfl, h1, h2, h3⟩ := (hA.below hb (by omega)) (by omega)
      have c0 : wr.cell? ⟨blk, off + k * 3, none⟩ = some (.string (c k)) := h3 k 0 hkn (by omega)
      have c1 : wr.cell? ⟨blk, off + k * 3 + 1, none⟩ = some (.int .i64 (a k)) := h3 k 1 hkn (by omega)
      have c2 : wr.cell? ⟨blk, off + k * 3 + 2, none⟩ = some (.int .i64 (b k)) := h3 k 2 hkn (by omega)
      have H3 := hide h3
      have l0 : blk < wr.heap.size := by omega
      clear h3 hA
      cases e1 : perB (c k) (a k) (b k) with
      | false =>
        have HF : Hid (pdB c a b n = false) := by show _ = _; rw [pdB, allB_false hkn (by simp [prS, e1])]; rfl
        go_wp2_with fail
        (refine wp_region_below_lit (by kernel_rfl) (by kernel_rfl) ?_; (repeat (first | go_big_quiet_step ((first | (go_at_call 51; exact quiet_ov (rfOne_any _ _ _ _ (hsz k hkn))) | (go_at_call 52; exact quiet_ov (rfBefore_any _ _ _ _ _ _ _)))) | quiet_step ((first | (go_at_call 51; exact quiet_ov (rfOne_any _ _ _ _ (hsz k hkn))) | (go_at_call 52; exact quiet_ov (rfBefore_any _ _ _ _ _ _ _)))))); refine wpQuiet_nil ?_; intro w2 hb2; have hz2 := hb2.size; (try (simp at hz2)); obtain ⟨hcw2, hfw2⟩ := bcell hb2; (try (have hy2 : w.heap.size < w2.heap.size := by omega)); (try (have hyy2 : w.heap.size + 1 < w2.heap.size := by omega)))
        go_wp2_with fail
        go_ret
        exact ⟨ret_bool HF.out.symm, (by repeat (first | (with_reducible exact Below.refl _ _) | (with_reducible refine below_ov ?_ ?_) | (with_reducible refine Below.setCell ?_ ?_ _) | (with_reducible refine Below.alloc ?_ ?_ _) | (with_reducible refine Below.drew ?_) | (with_reducible refine below_drewN ?_ _) | (refine Below.trans ?_ (Below.mono ‹Below _ _ _› (by first | omega | (simp; done) | (simp; omega)))) | exact Below.refl _ _ | omega | (focus (simp; done)) | (focus (simp; omega))))⟩
      | true =>
        rcases Nat.eq_zero_or_pos k with h0 | h0
        · have HO : Hid (ordI c a k = true) := by show _ = _; rw [ordI]; simp [h0]
          have d0 : decide (0 < k) = false := by simp; omega
          have dk : decide (k = 0) = true := by simp; omega
          clear h0
          go_wp2_with fail
          (refine wp_region_below_lit (by kernel_rfl) (by kernel_rfl) ?_; (repeat (first | go_big_quiet_step ((first | (go_at_call 51; exact quiet_ov (rfOne_any _ _ _ _ (hsz k hkn))) | (go_at_call 52; exact quiet_ov (rfBefore_any _ _ _ _ _ _ _)))) | quiet_step ((first | (go_at_call 51; exact quiet_ov (rfOne_any _ _ _ _ (hsz k hkn))) | (go_at_call 52; exact quiet_ov (rfBefore_any _ _ _ _ _ _ _)))))); refine wpQuiet_nil ?_; intro w2 hb2; have hz2 := hb2.size; (try (simp at hz2)); obtain ⟨hcw2, hfw2⟩ := bcell hb2; (try (have hy2 : w.heap.size < w2.heap.size := by omega)); (try (have hyy2 : w.heap.size + 1 < w2.heap.size := by omega)))
          have l2 : blk < w2.heap.size := by omega
          have l4 : k ≤ cap := by omega
          have l5 : (k : Int) ≤ (cap : Int) := by omega
          have lp : wr.heap.size < w2.heap.size := by omega
          have pa0 := hide ((hb2.cell (p := ⟨wr.heap.size, 0, none⟩) (by simp)).trans (World.cell?_alloc_new _ _ _ _))
          have pa1 := hide ((hb2.cell (p := ⟨wr.heap.size, 1, none⟩) (by simp)).trans (World.cell?_alloc_new _ _ _ _))
          have H4 : Hid (∀ t u, t < n → u < 3 → w2.cell? ⟨blk, off + t * 3 + u, none⟩ = some (siiC c a b t u)) := fun t u ht hu => (hb2.cell (p := ⟨blk, off + t * 3 + u, none⟩) (by simp; omega)).trans ((World.cell?_alloc_lt _ _ _ l0).trans (H3.out t u ht hu))
          have hb2' : Below w.heap.size w w2 := (by repeat (first | (with_reducible exact Below.refl _ _) | (with_reducible refine below_ov ?_ ?_) | (with_reducible refine Below.setCell ?_ ?_ _) | (with_reducible refine Below.alloc ?_ ?_ _) | (with_reducible refine Below.drew ?_) | (with_reducible refine below_drewN ?_ _) | (refine Below.trans ?_ (Below.mono ‹Below _ _ _› (by first | omega | (simp; done) | (simp; omega)))) | exact Below.refl _ _ | omega | (focus (simp; done)) | (focus (simp; omega))))
          go_wp2_with fail
          clear c0 c1 c2 hcw2 hfw2 H3
          obtain ⟨wo, rfl⟩ : ∃ wo : World, wo = wr := ⟨_, rfl⟩
          go_loopw [35] (fun i wi => ∃ j : Nat, j ≤ k ∧ i = .int .i64 j ∧ Hid (∀ t, t < j → (!clash c a b k t) = true) ∧ Below w2.heap.size w2 wi) (fun i _ => k - (intOf i).toNat)
          case atStart => exact ⟨0, by omega, rfl, fun j hj => by omega, Below.refl _ _⟩
          case round =>
            obtain ⟨j, hjk, rfl, hcl, hbi⟩ := hrel
            have hzi := hbi.size
            by_cases hjlt : j < k
            · have d0 : wr.cell? ⟨blk, off + j * 3, none⟩ = some (.string (c j)) := (hbi.cell (p := ⟨blk, off + j * 3, none⟩) l2).trans (H4.out j 0 (by omega) (by omega))
              have d1 : wr.cell? ⟨blk, off + j * 3 + 1, none⟩ = some (.int .i64 (a j)) := (hbi.cell (p := ⟨blk, off + j * 3 + 1, none⟩) l2).trans (H4.out j 1 (by omega) (by omega))
              have d2 : wr.cell? ⟨blk, off + j * 3 + 2, none⟩ = some (.int .i64 (b j)) := (hbi.cell (p := ⟨blk, off + j * 3 + 2, none⟩) l2).trans (H4.out j 2 (by omega) (by omega))
              have pb0 : wr.cell? ⟨wo.heap.size, 0, none⟩ = some (.string (c k)) := (hbi.cell (p := ⟨wo.heap.size, 0, none⟩) lp).trans pa0.out
              have pb1 : wr.cell? ⟨wo.heap.size, 1, none⟩ = some (.int .i64 (a k)) := (hbi.cell (p := ⟨wo.heap.size, 1, none⟩) lp).trans pa1.out
              have l6 : blk < wr.heap.size := by omega
              have l7 : wo.heap.size < wr.heap.size := by omega
              cases e5 : ((c j).toList == (c k).toList) with
              | false =>
                have HG : Hid ((!clash c a b k j) = true) := by show _ = _; rw [str_beq] at e5; simp [clash, e5]
                go_wp2_with fail
                go_roundw
                case rel => exact ⟨j + 1, by omega, by go_num, upto_snoc (p := fun t => !clash c a b k t) hcl.out HG.out, (by repeat (first | (with_reducible exact Below.refl _ _) | (with_reducible refine below_ov ?_ ?_) | (with_reducible refine Below.setCell ?_ ?_ _) | (with_reducible refine Below.alloc ?_ ?_ _) | (with_reducible refine Below.drew ?_) | (with_reducible refine below_drewN ?_ _) | (refine Below.trans ?_ (Below.mono ‹Below _ _ _› (by first | omega | (simp; done) | (simp; omega)))) | exact Below.refl _ _ | omega | (focus (simp; done)) | (focus (simp; omega))))⟩
                case measure => simp [intOf]; omega
              | true =>
                cases e6 : decide (b j > a k) with
                | false =>
                  have HG : Hid ((!clash c a b k j) = true) := by show _ = _; have := of_decide_eq_false e6; simp [clash]; intros; omega
                  go_wp2_with fail
                  go_roundw
                  case rel => exact ⟨j + 1, by omega, by go_num, upto_snoc (p := fun t => !clash c a b k t) hcl.out HG.out, (by repeat (first | (with_reducible exact Below.refl _ _) | (with_reducible refine below_ov ?_ ?_) | (with_reducible refine Below.setCell ?_ ?_ _) | (with_reducible refine Below.alloc ?_ ?_ _) | (with_reducible refine Below.drew ?_) | (with_reducible refine below_drewN ?_ _) | (refine Below.trans ?_ (Below.mono ‹Below _ _ _› (by first | omega | (simp; done) | (simp; omega)))) | exact Below.refl _ _ | omega | (focus (simp; done)) | (focus (simp; omega))))⟩
                  case measure => simp [intOf]; omega
                | true =>
                  have HF : Hid (pdB c a b n = false) := by
                    show _ = _
                    have h5 : (!clash c a b k j) = false := by
                      have := of_decide_eq_true e6
                      rw [str_beq] at e5
                      simp [clash, of_decide_eq_true e5]; omega
                    rw [pdB, allB_false hkn (by rw [prS, allB_false hjlt h5]; simp)]; rfl
                  go_wp2_with fail
                  go_ret
                  exact ⟨ret_bool HF.out.symm, (by repeat (first | (with_reducible exact Below.refl _ _) | (with_reducible refine below_ov ?_ ?_) | (with_reducible refine Below.setCell ?_ ?_ _) | (with_reducible refine Below.alloc ?_ ?_ _) | (with_reducible refine Below.drew ?_) | (with_reducible refine below_drewN ?_ _) | (refine Below.trans ?_ (Below.mono ‹Below _ _ _› (by first | omega | (simp; done) | (simp; omega)))) | exact Below.refl _ _ | omega | (focus (simp; done)) | (focus (simp; omega))))⟩
            · obtain rfl : j = k := by omega
              have HG : Hid (prS c a b j = true) := by show _ = _; rw [prS, HO.out, allB_iff.2 hcl.out, e1]; rfl
              go_wp2_with fail
              go_roundw
              case rel => exact ⟨j + 1, by omega, by go_num, upto_snoc hj.out HG.out, (by repeat (first | (with_reducible exact Below.refl _ _) | (with_reducible refine below_ov ?_ ?_) | (with_reducible refine Below.setCell ?_ ?_ _) | (with_reducible refine Below.alloc ?_ ?_ _) | (with_reducible refine Below.drew ?_) | (with_reducible refine below_drewN ?_ _) | (refine Below.trans ?_ (Below.mono ‹Below _ _ _› (by first | omega | (simp; done) | (simp; omega)))) | exact Below.refl _ _ | omega | (focus (simp; done)) | (focus (simp; omega))))⟩
              case measure => simp [intOf]; omega
        · have d0 : decide (0 < k) = true := by simp; omega
          have dk : decide (k = 0) = false := by simp; omega
          have z1 : IntKind.i64.wrap ((k : Int) - 1) = (k : Int) - 1 := IntWalk.i64_in _ (by omega)
          have z2 : ((k : Int) - 1).toNat = k - 1 := by omega
          have p0 : wr.cell? ⟨blk, off + (k - 1) * 3, none⟩ = some (.string (c (k - 1))) := H3.out (k - 1) 0 (by omega) (by omega)
          have p1 : wr.cell? ⟨blk, off + (k - 1) * 3 + 1, none⟩ = some (.int .i64 (a (k - 1))) := H3.out (k - 1) 1 (by omega) (by omega)
          have p2 : wr.cell? ⟨blk, off + (k - 1) * 3 + 2, none⟩ = some (.int .i64 (b (k - 1))) := H3.out (k - 1) 2 (by omega) (by omega)
          cases e2 : befB (c (k - 1)) (a (k - 1)) (c k) (a k) with
          | false =>
            have HF : Hid (pdB c a b n = false) := by
              show _ = _
              rw [pdB, allB_false hkn (by simp [prS, ordI, e2]; omega)]; rfl
            go_wp2_with fail
            (refine wp_region_below_lit (by kernel_rfl) (by kernel_rfl) ?_; (repeat (first | go_big_quiet_step ((first | (go_at_call 51; exact quiet_ov (rfOne_any _ _ _ _ (hsz k hkn))) | (go_at_call 52; exact quiet_ov (rfBefore_any _ _ _ _ _ _ _)))) | quiet_step ((first | (go_at_call 51; exact quiet_ov (rfOne_any _ _ _ _ (hsz k hkn))) | (go_at_call 52; exact quiet_ov (rfBefore_any _ _ _ _ _ _ _)))))); refine wpQuiet_nil ?_; intro w2 hb2; have hz2 := hb2.size; (try (simp at hz2)); obtain ⟨hcw2, hfw2⟩ := bcell hb2; (try (have hy2 : w.heap.size < w2.heap.size := by omega)); (try (have hyy2 : w.heap.size + 1 < w2.heap.size := by omega)))
            go_wp2_with fail
            go_ret
            exact ⟨ret_bool HF.out.symm, (by repeat (first | (with_reducible exact Below.refl _ _) | (with_reducible refine below_ov ?_ ?_) | (with_reducible refine Below.setCell ?_ ?_ _) | (with_reducible refine Below.alloc ?_ ?_ _) | (with_reducible refine Below.drew ?_) | (with_reducible refine below_drewN ?_ _) | (refine Below.trans ?_ (Below.mono ‹Below _ _ _› (by first | omega | (simp; done) | (simp; omega)))) | exact Below.refl _ _ | omega | (focus (simp; done)) | (focus (simp; omega))))⟩
          | true =>
            have HO : Hid (ordI c a k = true) := by
              show _ = _
              simp [ordI, e2]
            go_wp2_with fail
            (refine wp_region_below_lit (by kernel_rfl) (by kernel_rfl) ?_; (repeat (first | go_big_quiet_step ((first | (go_at_call 51; exact quiet_ov (rfOne_any _ _ _ _ (hsz k hkn))) | (go_at_call 52; exact quiet_ov (rfBefore_any _ _ _ _ _ _ _)))) | quiet_step ((first | (go_at_call 51; exact quiet_ov (rfOne_any _ _ _ _ (hsz k hkn))) | (go_at_call 52; exact quiet_ov (rfBefore_any _ _ _ _ _ _ _)))))); refine wpQuiet_nil ?_; intro w2 hb2; have hz2 := hb2.size; (try (simp at hz2)); obtain ⟨hcw2, hfw2⟩ := bcell hb2; (try (have hy2 : w.heap.size < w2.heap.size := by omega)); (try (have hyy2 : w.heap.size + 1 < w2.heap.size := by omega)))
            have l2 : blk < w2.heap.size := by omega
            have l4 : k ≤ cap := by omega
            have l5 : (k : Int) ≤ (cap : Int) := by omega
            have lp : wr.heap.size < w2.heap.size := by omega
            have pa0 := hide ((hb2.cell (p := ⟨wr.heap.size, 0, none⟩) (by simp)).trans (World.cell?_alloc_new _ _ _ _))
            have pa1 := hide ((hb2.cell (p := ⟨wr.heap.size, 1, none⟩) (by simp)).trans (World.cell?_alloc_new _ _ _ _))
            have H4 : Hid (∀ t u, t < n → u < 3 → w2.cell? ⟨blk, off + t * 3 + u, none⟩ = some (siiC c a b t u)) := fun t u ht hu => (hb2.cell (p := ⟨blk, off + t * 3 + u, none⟩) (by simp; omega)).trans ((World.cell?_alloc_lt _ _ _ l0).trans (H3.out t u ht hu))
            have hb2' : Below w.heap.size w w2 := (by repeat (first | (with_reducible exact Below.refl _ _) | (with_reducible refine below_ov ?_ ?_) | (with_reducible refine Below.setCell ?_ ?_ _) | (with_reducible refine Below.alloc ?_ ?_ _) | (with_reducible refine Below.drew ?_) | (with_reducible refine below_drewN ?_ _) | (refine Below.trans ?_ (Below.mono ‹Below _ _ _› (by first | omega | (simp; done) | (simp; omega)))) | exact Below.refl _ _ | omega | (focus (simp; done)) | (focus (simp; omega))))
            go_wp2_with fail
            clear c0 c1 c2 hcw2 hfw2 H3
            obtain ⟨wo, rfl⟩ : ∃ wo : World, wo = wr := ⟨_, rfl⟩
            go_loopw [35] (fun i wi => ∃ j : Nat, j ≤ k ∧ i = .int .i64 j ∧ Hid (∀ t, t < j → (!clash c a b k t) = true) ∧ Below w2.heap.size w2 wi) (fun i _ => k - (intOf i).toNat)
            case atStart => exact ⟨0, by omega, rfl, fun j hj => by omega, Below.refl _ _⟩
            case round =>
              obtain ⟨j, hjk, rfl, hcl, hbi⟩ := hrel
              have hzi := hbi.size
              by_cases hjlt : j < k
              · have d0 : wr.cell? ⟨blk, off + j * 3, none⟩ = some (.string (c j)) := (hbi.cell (p := ⟨blk, off + j * 3, none⟩) l2).trans (H4.out j 0 (by omega) (by omega))
                have d1 : wr.cell? ⟨blk, off + j * 3 + 1, none⟩ = some (.int .i64 (a j)) := (hbi.cell (p := ⟨blk, off + j * 3 + 1, none⟩) l2).trans (H4.out j 1 (by omega) (by omega))
                have d2 : wr.cell? ⟨blk, off + j * 3 + 2, none⟩ = some (.int .i64 (b j)) := (hbi.cell (p := ⟨blk, off + j * 3 + 2, none⟩) l2).trans (H4.out j 2 (by omega) (by omega))
                have pb0 : wr.cell? ⟨wo.heap.size, 0, none⟩ = some (.string (c k)) := (hbi.cell (p := ⟨wo.heap.size, 0, none⟩) lp).trans pa0.out
                have pb1 : wr.cell? ⟨wo.heap.size, 1, none⟩ = some (.int .i64 (a k)) := (hbi.cell (p := ⟨wo.heap.size, 1, none⟩) lp).trans pa1.out
                have l6 : blk < wr.heap.size := by omega
                have l7 : wo.heap.size < wr.heap.size := by omega
                cases e5 : ((c j).toList == (c k).toList) with
                | false =>
                  have HG : Hid ((!clash c a b k j) = true) := by show _ = _; rw [str_beq] at e5; simp [clash, e5]
                  go_wp2_with fail
                  go_roundw
                  case rel => exact ⟨j + 1, by omega, by go_num, upto_snoc (p := fun t => !clash c a b k t) hcl.out HG.out, (by repeat (first | (with_reducible exact Below.refl _ _) | (with_reducible refine below_ov ?_ ?_) | (with_reducible refine Below.setCell ?_ ?_ _) | (with_reducible refine Below.alloc ?_ ?_ _) | (with_reducible refine Below.drew ?_) | (with_reducible refine below_drewN ?_ _) | (refine Below.trans ?_ (Below.mono ‹Below _ _ _› (by first | omega | (simp; done) | (simp; omega)))) | exact Below.refl _ _ | omega | (focus (simp; done)) | (focus (simp; omega))))⟩
                  case measure => simp [intOf]; omega
                | true =>
                  cases e6 : decide (b j > a k) with
                  | false =>
                    have HG : Hid ((!clash c a b k j) = true) := by show _ = _; have := of_decide_eq_false e6; simp [clash]; intros; omega
                    go_wp2_with fail
                    go_roundw
                    case rel => exact ⟨j + 1, by omega, by go_num, upto_snoc (p := fun t => !clash c a b k t) hcl.out HG.out, (by repeat (first | (with_reducible exact Below.refl _ _) | (with_reducible refine below_ov ?_ ?_) | (with_reducible refine Below.setCell ?_ ?_ _) | (with_reducible refine Below.alloc ?_ ?_ _) | (with_reducible refine Below.drew ?_) | (with_reducible refine below_drewN ?_ _) | (refine Below.trans ?_ (Below.mono ‹Below _ _ _› (by first | omega | (simp; done) | (simp; omega)))) | exact Below.refl _ _ | omega | (focus (simp; done)) | (focus (simp; omega))))⟩
                    case measure => simp [intOf]; omega
                  | true =>
                    have HF : Hid (pdB c a b n = false) := by
                      show _ = _
                      have h5 : (!clash c a b k j) = false := by
                        have := of_decide_eq_true e6
                        rw [str_beq] at e5
                        simp [clash, of_decide_eq_true e5]; omega
                      rw [pdB, allB_false hkn (by rw [prS, allB_false hjlt h5]; simp)]; rfl
                    go_wp2_with fail
                    go_ret
                    exact ⟨ret_bool HF.out.symm, (by repeat (first | (with_reducible exact Below.refl _ _) | (with_reducible refine below_ov ?_ ?_) | (with_reducible refine Below.setCell ?_ ?_ _) | (with_reducible refine Below.alloc ?_ ?_ _) | (with_reducible refine Below.drew ?_) | (with_reducible refine below_drewN ?_ _) | (refine Below.trans ?_ (Below.mono ‹Below _ _ _› (by first | omega | (simp; done) | (simp; omega)))) | exact Below.refl _ _ | omega | (focus (simp; done)) | (focus (simp; omega))))⟩
              · obtain rfl : j = k := by omega
                have HG : Hid (prS c a b j = true) := by show _ = _; rw [prS, HO.out, allB_iff.2 hcl.out, e1]; rfl
                go_wp2_with fail
                go_roundw
                case rel => exact ⟨j + 1, by omega, by go_num, upto_snoc hj.out HG.out, (by repeat (first | (with_reducible exact Below.refl _ _) | (with_reducible refine below_ov ?_ ?_) | (with_reducible refine Below.setCell ?_ ?_ _) | (with_reducible refine Below.alloc ?_ ?_ _) | (with_reducible refine Below.drew ?_) | (with_reducible refine below_drewN ?_ _) | (refine Below.trans ?_ (Below.mono ‹Below _ _ _› (by first | omega | (simp; done) | (simp; omega)))) | exact Below.refl _ _ | omega | (focus (simp; done)) | (focus (simp; omega))))⟩
                case measure => simp [intOf]; omega
    · obtain rfl : k = n := by omega
      have HE : Hid (pdB c a b k = decide ((k : Int) ≤ 12)) := by show _ = _; rw [pdB, allB_iff.2 hj.out]; rfl
      go_wp2_with fail
      go_ret
      exact ⟨ret_bool HE.out.symm, hb⟩

end Go.Proofs.YtnmmkechkcfjnaaGreatDoor

/-
  Walks: names in their strict order; the bounds of a plan.-/
namespace Go.Proofs.YtnmmkechkcfjnaaGreatDoor
set_option linter.unusedVariables false
set_option linter.unusedSimpArgs false
open Go.RowKit

def riP (c : Nat → ByteArray) (i : Nat) : Bool := decide (i = 0) || ltS (c (i - 1)) (c i)
def riB (c : Nat → ByteArray) (n : Nat) : Bool := allB (riP c) n
def naB (c : Nat → ByteArray) (n : Nat) : Bool := allB (fun i => nameB (c i)) n
def crP (c : Nat → ByteArray) (i : Nat) : Bool := nameB (c i) && riP c i
def crB (c : Nat → ByteArray) (n : Nat) : Bool := allB (crP c) n
theorem crB_eq (c : Nat → ByteArray) (n : Nat) : crB c n = (riB c n && naB c n) := by
  have : crB c n = true ↔ (riB c n && naB c n) = true := by
    rw [Bool.and_eq_true, crB, riB, naB, allB_iff, allB_iff, allB_iff]
    constructor
    · intro h
      exact ⟨fun i hi => (Bool.and_eq_true _ _ ▸ h i hi).2, fun i hi => (Bool.and_eq_true _ _ ▸ h i hi).1⟩
    · intro h i hi
      simp only [crP, Bool.and_eq_true]
      exact ⟨h.2 i hi, h.1 i hi⟩
  cases e : crB c n <;> cases e' : (riB c n && naB c n) <;> simp_all
theorem up_iff {x r k : Int} (hr : 0 < r) : k < upF x r ↔ k * r < x := by
  have h := Int.le_ediv_iff_mul_le (a := k + 1) (b := x + r - 1) (c := r) hr
  rw [Int.add_mul, Int.one_mul] at h
  unfold upF
  constructor
  · intro h1; have := h.1 (by omega); omega
  · intro h1; have := h.2 (by omega); omega
def plOk (c : Nat → ByteArray) (n : Nat) (p q r t : Int) : Bool := spanB p q r t && crB c n && decide ((n : Int) ≤ 8) && decide (lcN p q r t ≤ n) && decide (upF (q - p) r ≤ 12)
def plN (c : Nat → ByteArray) (n : Nat) (p q r t : Int) : Nat := if plOk c n p q r t = true then (upF (q - p) r).toNat else 0
def plC (c : Nat → ByteArray) (n : Nat) (i : Nat) : ByteArray := c (i % n)
def plA (p r : Int) (i : Nat) : Int := p + i * r
def plB (p q r : Int) (i : Nat) : Int := min (p + i * r + r) q
theorem plN_le {c : Nat → ByteArray} {n : Nat} {p q r t : Int} : plN c n p q r t ≤ 1048576 := by
  unfold plN
  split
  · rename_i h
    simp only [plOk, Bool.and_eq_true, decide_eq_true_eq] at h
    omega
  · omega
theorem pl_facts {c : Nat → ByteArray} {n : Nat} {p q r t : Int} (h : spanB p q r t = true) : (0 ≤ p ∧ p ≤ 9999) ∧ (0 ≤ q ∧ q ≤ 9999) ∧ p < q ∧ (1 ≤ r ∧ r ≤ 720) ∧ (0 ≤ t ∧ t ≤ 720) := by
  simp only [spanB, Bool.and_eq_true, inB_iff, decide_eq_true_eq] at h
  exact ⟨h.1.1.1.1, h.1.1.1.2, h.1.1.2, h.1.2, h.2⟩
theorem pl_least {p q r t : Int} (h : spanB p q r t = true) : 1 ≤ lcN p q r t ∧ 1 ≤ upF (q - p) r ∧ upF (q - p) r ≤ 9999 := by
  obtain ⟨h1, h2, h3, h4, h5⟩ := pl_facts (c := fun _ => ⟨#[]⟩) (n := 0) h
  have u1 := upF_bd (a := t) (d := r) (by omega) (by omega) (by omega)
  have u2 := upF_bd (a := q - p) (d := r) (by omega) (by omega) (by omega)
  have u3 := (up_iff (x := q - p) (r := r) (k := 0) (by omega)).2 (by omega)
  have u4 := up_iff (x := q - p) (r := r) (k := 9999) (by omega)
  unfold lcN
  refine ⟨by omega, by omega, ?_⟩
  rcases Int.lt_or_le 9999 (upF (q - p) r) with h6 | h6
  · have h7 := u4.1 h6
    have : (9999 : Int) ≤ 9999 * r := by omega
    omega
  · exact h6
/-- What the call hands back. -/
def PlRes (c : Nat → ByteArray) (n : Nat) (p q r t : Int) (ok : Bool) (w : World) (e : Ending) (w' : World) : Prop := ∃ v', e = .returned (.tuple #[v', .bool ok]) ∧ Own w' w.heap.size w'.heap.size 38 3 v' (plN c n p q r t) (plN c n p q r t) (siiC (plC c n) (plA p r) (plB p q r)) ∧ Below w.heap.size w w'
theorem pl_nil {c : Nat → ByteArray} {n : Nat} {p q r t : Int} {w w' : World} (h : plOk c n p q r t = false) (hb : Below w.heap.size w w') : PlRes c n p q r t false w (.returned (.tuple #[.slice none 0 0, .bool false])) w' :=
  ⟨_, rfl, by rw [plN, h]; exact Own.nil_ _ _ _ _ _ _, hb⟩
def plV (c : Nat → ByteArray) (n : Nat) (p q r : Int) : Nat → List Value := rowL (siiC (plC c n) (plA p r) (plB p q r)) 3
theorem plV_snoc (c : Nat → ByteArray) (n : Nat) (p q r : Int) (k : Nat) : plV c n p q r (k + 1) = plV c n p q r k ++ [.string (plC c n k), .int .i64 (plA p r k), .int .i64 (plB p q r k)] := rfl
theorem pl_at {p q r t : Int} {k : Nat} (h : spanB p q r t = true) : decide (p + k * r < q) = decide (k < (upF (q - p) r).toNat) := by
  obtain ⟨h1, h2, h3, h4, h5⟩ := pl_facts (c := fun _ => ⟨#[]⟩) (n := 0) h
  have u := up_iff (x := q - p) (r := r) (k := (k : Int)) (by omega)
  by_cases e : (k : Int) < upF (q - p) r
  · have := u.1 e
    rw [decide_eq_true (by omega), decide_eq_true (by omega)]
  · have : ¬ (k : Int) * r < q - p := fun h => e (u.2 h)
    rw [decide_eq_false (by omega), decide_eq_false (by omega)]
theorem three_one {x : ByteArray} {y z : Int} : ∀ u ∈ [Value.string x, .int .i64 y, .int .i64 z], u.oneCell' = true := by
  intro u hu
  simp at hu
  rcases hu with rfl | rfl | rfl <;> rfl
set_option maxRecDepth 100000 in
set_option maxHeartbeats 1600000 in
theorem dsNames_any (c : Nat → ByteArray) (n lo hi : Nat) (v : Value) (w : World) (hv : Sl w lo hi 1 v n (sC c)) (hhi : hi ≤ w.heap.size) (hn : n ≤ 1048576) :
    Calls Tryz.prog 37 #[v] w fun e w' => e = .returned (.bool (riB c n)) ∧ Below w.heap.size w w' := by
  obtain ⟨A, cap, rfl, hcap, hA⟩ := hv.open_
  go_enter Tryz.func37, Tryz.ntmps37
  go_wp2_with fail
  go_loopw [7] (fun i wr => ∃ k : Nat, k ≤ n ∧ i = .int .i64 k ∧ Hid (∀ j, j < k → riP c j = true) ∧ Below w.heap.size w wr) (fun i _ => n - (intOf i).toNat)
  case atStart => exact ⟨0, by omega, rfl, fun j hj => by omega, Below.refl _ _⟩
  case round =>
    obtain ⟨k, hk, rfl, hj, hb⟩ := hrel
    have hzr := hb.size
    by_cases hkn : k < n
    · obtain ⟨blk, off, rfl, h1, h2, h3⟩ := (hA.below hb (by omega)) (by omega)
      have c0 : wr.cell? ⟨blk, off + k, none⟩ = some (.string (c k)) := by simpa [sC] using h3 k 0 hkn (by omega)
      have c1 : wr.cell? ⟨blk, off + (k - 1), none⟩ = some (.string (c (k - 1))) := by simpa [sC] using h3 (k - 1) 0 (by omega) (by omega)
      have l0 : blk < wr.heap.size := by omega
      clear h3 hA
      rcases Nat.eq_zero_or_pos k with h0 | h0
      · have HG : Hid (riP c k = true) := by show _ = _; simp [riP, h0]
        have d0 : decide (0 < k) = false := by simp; omega
        have dk : decide (k = 0) = true := by simp; omega
        clear h0
        go_wp2_with fail
        go_roundw
        case rel => exact ⟨k + 1, by omega, by go_num, upto_snoc hj.out HG.out, (by repeat (first | (with_reducible exact Below.refl _ _) | (with_reducible refine below_ov ?_ ?_) | (with_reducible refine Below.setCell ?_ ?_ _) | (with_reducible refine Below.alloc ?_ ?_ _) | (with_reducible refine Below.drew ?_) | (with_reducible refine below_drewN ?_ _) | (refine Below.trans ?_ (Below.mono ‹Below _ _ _› (by first | omega | (simp; done) | (simp; omega)))) | exact Below.refl _ _ | omega | (focus (simp; done)) | (focus (simp; omega))))⟩
        case measure => simp [intOf]; omega
      · have d0 : decide (0 < k) = true := by simp; omega
        have dk : decide (k = 0) = false := by simp; omega
        have z1 : IntKind.i64.wrap ((k : Int) - 1) = (k : Int) - 1 := IntWalk.i64_in _ (by omega)
        have z2 : ((k : Int) - 1).toNat = k - 1 := by omega
        cases e2 : Op.bytesLess (c (k - 1)).toList (c k).toList with
        | true =>
          have HG : Hid (riP c k = true) := by show _ = _; simp [riP, ltS, e2]
          go_wp2_with fail
          go_roundw
          case rel => exact ⟨k + 1, by omega, by go_num, upto_snoc hj.out HG.out, (by repeat (first | (with_reducible exact Below.refl _ _) | (with_reducible refine below_ov ?_ ?_) | (with_reducible refine Below.setCell ?_ ?_ _) | (with_reducible refine Below.alloc ?_ ?_ _) | (with_reducible refine Below.drew ?_) | (with_reducible refine below_drewN ?_ _) | (refine Below.trans ?_ (Below.mono ‹Below _ _ _› (by first | omega | (simp; done) | (simp; omega)))) | exact Below.refl _ _ | omega | (focus (simp; done)) | (focus (simp; omega))))⟩
          case measure => simp [intOf]; omega
        | false =>
          have HF : Hid (riB c n = false) := by show _ = _; rw [riB, allB_false hkn (by simp [riP, ltS, e2]; omega)]
          go_wp2_with fail
          go_ret
          exact ⟨ret_bool HF.out.symm, (by repeat (first | (with_reducible exact Below.refl _ _) | (with_reducible refine below_ov ?_ ?_) | (with_reducible refine Below.setCell ?_ ?_ _) | (with_reducible refine Below.alloc ?_ ?_ _) | (with_reducible refine Below.drew ?_) | (with_reducible refine below_drewN ?_ _) | (refine Below.trans ?_ (Below.mono ‹Below _ _ _› (by first | omega | (simp; done) | (simp; omega)))) | exact Below.refl _ _ | omega | (focus (simp; done)) | (focus (simp; omega))))⟩
    · obtain rfl : k = n := by omega
      have HE : Hid (riB c k = true) := by show _ = _; rw [riB, allB_iff.2 hj.out]
      go_wp2_with fail
      go_ret
      exact ⟨ret_bool HE.out.symm, hb⟩

end Go.Proofs.YtnmmkechkcfjnaaGreatDoor
