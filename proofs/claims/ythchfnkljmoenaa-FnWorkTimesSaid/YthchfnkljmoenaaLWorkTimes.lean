/-
  FnWorkTimes: the law returns true at every input. No condition.
-/
import Derived.Test.YthchfnkljmoenaaQ15
import Derived.Deep.Cut
import Derived.Deep.CutRange
namespace Go.Proofs.Ythchfnkljmoenaa
set_option linter.unusedVariables false
set_option linter.unusedSimpArgs false
open Go.ChangeShapes Go.WideShapes Go.ChangeAt Go.RowKit Go.Joins Go.Deep

set_option maxHeartbeats 800000 in
theorem big_any (A : Option Addr) (n cap : Nat) (B : Option Addr) (m capB : Nat) (w : World) (hn : n ≤ 9223372036854775807) (hm : m ≤ 9223372036854775807) :
    Calls Try.prog 4 #[.slice A n cap, .slice B m capB] w fun e w' => (∃ b : Bool, e = .returned (.bool b)) ∧ w = w' := by
  by_cases h : n > 1048576
  · have d : decide ((n : Int) > 1048576) = true := decide_eq_true (by omega)
    have d' : decide (1048576 < n) = true := decide_eq_true (by omega)
    go_enter Try.func4, Try.ntmps4
    go_wp2_with fail
    go_ret
    exact ⟨⟨_, rfl⟩, rfl⟩
  · have d : decide ((n : Int) > 1048576) = false := decide_eq_false (by omega)
    have d' : decide (1048576 < n) = false := decide_eq_false (by omega)
    have z : IntKind.i64.wrap (1048576 - (n : Int)) = 1048576 - (n : Int) := IntWalk.i64_in _ (by omega)
    go_enter Try.func4, Try.ntmps4
    go_wp2_with fail
    go_ret
    exact ⟨⟨_, rfl⟩, rfl⟩
set_option maxRecDepth 100000 in
set_option maxHeartbeats 12800000 in
theorem FnWorkTimes_walk (A : Option Addr) (n cap : Nat) (B : Option Addr) (mm capB : Nat) (w : World) (hc : Code w (.slice A n cap)) (hm : Code w (.slice B mm capB)) :
    Calls Try.prog 3 #[.slice A n cap, .slice B mm capB] w fun e w' => e = .returned (.bool true) ∧ Below w.heap.size w w' := by
  go_enter Try.func3, Try.ntmps3
  go_wp2_with fail
  refine (big_any A n cap B mm capB w hc.len hm.len).mono ?_
  rintro e w0 ⟨⟨b0, rfl⟩, rfl⟩
  cases b0 with
  | true =>
    go_wp2_with fail
    go_ret
    exact ⟨rfl, Below.refl _ _⟩
  | false =>
    go_wp2_with fail
    have HB_0 : Hid (BelW w w) := Below.refl _ _
    have C0_0 := hide hc
    have C1_0 := hide hm
    refine (DrawRestOf_any _ _ C0_0.out).mono ?_
    rintro e v1 ⟨u1, n1, c1, a1, b1, s1, x1, rfl, hn, hcs, hs1, hl, hb⟩
    have HB_2 := hide (HB_0.out.bel hb)
    clear HB_0
    have C0_2 := hide (C0_0.out.bel hb)
    clear C0_0
    have C1_2 := hide (C1_0.out.bel hb)
    clear C1_0
    obtain ⟨A1, k1, rfl, _, _⟩ := id hl.open_
    have L1_s : Hid (SlW v1 3 (.slice A1 n1 k1) n1 (siiC c1 a1 b1)) := SlW.of hl (Nat.le_refl _)
    have HPF1 : Hid (pfits c1 n1) := ⟨by omega, fun i hi => by have := hcs i hi; unfold maxLen; omega⟩
    have HN1 := hide hn
    have HC1 := hide hcs
    have HS1 : Hid (s1.size ≤ maxLen) := by show s1.size ≤ _; unfold maxLen; omega
    clear hl hn hcs hb hs1
    clear C0_2
    obtain ⟨R, hR⟩ : ∃ z, restN c1 a1 b1 n1 s1 x1 = z := ⟨_, rfl⟩
    have HR := hide hR
    clear hR
    obtain ⟨ok, hok⟩ : ∃ z, restOk c1 a1 b1 n1 s1 x1 = z := ⟨_, rfl⟩
    have HOK := hide hok
    clear hok
    obtain ⟨wk, hwk⟩ : ∃ z, wkN c1 a1 b1 n1 s1 x1 = z := ⟨_, rfl⟩
    have HWK := hide hwk
    clear hwk
    obtain ⟨ak, hak⟩ : ∃ z, askP c1 a1 b1 n1 s1 x1 = z := ⟨_, rfl⟩
    have HAK := hide hak
    clear hak
    go_wp2_with fail
    refine (RestOf_impl c1 a1 b1 n1 s1 x1 0 _ _ _ L1_s.out (Nat.le_refl _) HPF1.out HS1.out).mono ?_
    rintro e v3 ⟨rfl, hb⟩
    rw [HR.out, HOK.out]
    have HB_4 := hide (HB_2.out.bel hb)
    clear HB_2
    have C1_4 := hide (C1_2.out.bel hb)
    clear C1_2
    have L1_4 := hide (L1_s.out.bel hb)
    clear L1_s
    clear hb
    go_wp2_with fail
    refine (RestOf_spec c1 a1 b1 n1 s1 x1 0 _ _ _ L1_4.out (Nat.le_refl _) HPF1.out HS1.out).mono ?_
    rintro e v5 ⟨rfl, hb⟩
    rw [HR.out, HOK.out]
    have HB_6 := hide (HB_4.out.bel hb)
    clear HB_4
    have C1_6 := hide (C1_4.out.bel hb)
    clear C1_4
    have L1_6 := hide (L1_4.out.bel hb)
    clear L1_4
    clear hb
    go_wp2_with fail
    refine (WorkedBy_impl c1 a1 b1 n1 s1 x1 0 _ _ _ L1_6.out (Nat.le_refl _) HPF1.out HS1.out).mono ?_
    rintro e v7 ⟨rfl, hb⟩
    rw [HWK.out, HAK.out]
    have HB_8 := hide (HB_6.out.bel hb)
    clear HB_6
    have C1_8 := hide (C1_6.out.bel hb)
    clear C1_6
    have L1_8 := hide (L1_6.out.bel hb)
    clear L1_6
    clear hb
    go_wp2_with fail
    refine (WorkedBy_spec c1 a1 b1 n1 s1 x1 0 _ _ _ L1_8.out (Nat.le_refl _) HPF1.out HS1.out).mono ?_
    rintro e v9 ⟨rfl, hb⟩
    rw [HWK.out, HAK.out]
    have HB_10 := hide (HB_8.out.bel hb)
    clear HB_8
    have C1_10 := hide (C1_8.out.bel hb)
    clear C1_8
    have L1_10 := hide (L1_8.out.bel hb)
    clear L1_8
    clear hb
    go_upto_region 8 with fail
    go_cut [118] from 94 to 118 (fun s wx => s = .bool false ∧ Hid (BelW w wx) ∧ Hid (Code wx (.slice B mm capB)) ∧ Hid (SlW wx 3 (.slice A1 n1 k1) n1 (siiC c1 a1 b1)))
    case first => as_aux_lemma =>
      cases ok with
      | false =>
        go_wp2_with fail
        go_meet
        case rel => exact ⟨rfl, HB_10, C1_10, L1_10⟩
      | true =>
        obtain rfl : ak = true := by rw [← HAK.out]; exact (rest_facts HOK.out).1
        go_wp2_with fail
        go_meet
        case rel => exact ⟨rfl, HB_10, C1_10, L1_10⟩
    case rest => as_aux_lemma =>
      obtain ⟨rfl, HB_11, C1_11, L1_11⟩ := hcut
      go_upto_if 119 with fail
      go_cut [] from 16 to 169 (fun wx => Hid (BelW w wx) ∧ Hid (Code wx (.slice B mm capB)) ∧ Hid (SlW wx 3 (.slice A1 n1 k1) n1 (siiC c1 a1 b1)))
      case first => as_aux_lemma =>
        cases ok with
        | false =>
          go_wp2_with fail
          go_meet
          case rel => exact ⟨HB_11, C1_11, L1_11⟩
        | true =>
          obtain ⟨h1, h2, h3, h4, h5⟩ := rest_facts HOK.out
          have HCA : Hid (caOk c1 a1 b1 n1 x1 = true) := h2
          have HHS := hide (crews_has (s := s1) h2)
          rw [HR.out] at h3 h4 h5
          rw [HWK.out] at h5
          obtain ⟨an, han⟩ : ∃ z, anyAt c1 a1 b1 n1 s1 x1 = z := ⟨_, rfl⟩
          have HAN := hide han
          clear han
          rw [HAN.out] at h4 h5 HHS
          have HF3 := hide h3
          have HF4 := hide h4
          have HF5 := hide h5
          clear h1 h2 h3 h4 h5
          have HKL : Hid (caN c1 a1 b1 n1 x1 ≤ 1048576) := caN_le
          obtain ⟨NK, hNK⟩ : ∃ z, caN c1 a1 b1 n1 x1 = z := ⟨_, rfl⟩
          have HNK := hide hNK
          clear hNK
          obtain ⟨KS, hKS⟩ : ∃ z, caS c1 a1 b1 n1 x1 = z := ⟨_, rfl⟩
          have HKS := hide hKS
          clear hKS
          rw [HNK.out] at HHS HKL
          rw [HKS.out] at HHS
          go_wp2_with fail
          refine (CrewsAt_impl c1 a1 b1 n1 x1 0 _ _ _ L1_11.out (Nat.le_refl _) HPF1.out).mono ?_
          rintro e v12 ⟨st, rfl, ho, hb⟩
          rw [HCA.out]
          rw [HNK.out, HKS.out] at ho
          have HB_13 := hide (HB_11.out.bel hb)
          clear HB_11
          have C1_13 := hide (C1_11.out.bel hb)
          clear C1_11
          have L1_13 := hide (L1_11.out.bel hb)
          clear L1_11
          obtain ⟨K1, ck1, rfl, _, _⟩ := id ho.sl.open_
          have K1_s : Hid (SlW v12 1 (.slice K1 NK ck1) NK (sC KS)) := SlW.of ho.sl (Nat.le_refl _)
          clear ho hb
          go_wp2_with fail
          refine (CrewsAt_spec c1 a1 b1 n1 x1 0 _ _ _ L1_13.out (Nat.le_refl _) HPF1.out).mono ?_
          rintro e v14 ⟨st, rfl, ho, hb⟩
          rw [HCA.out]
          rw [HNK.out, HKS.out] at ho
          have HB_15 := hide (HB_13.out.bel hb)
          clear HB_13
          have C1_15 := hide (C1_13.out.bel hb)
          clear C1_13
          have L1_15 := hide (L1_13.out.bel hb)
          clear L1_13
          have K1_15 := hide (K1_s.out.bel hb)
          clear K1_s
          obtain ⟨K2, ck2, rfl, _, _⟩ := id ho.sl.open_
          have K2_s : Hid (SlW v14 1 (.slice K2 NK ck2) NK (sC KS)) := SlW.of ho.sl (Nat.le_refl _)
          clear ho hb
          go_wp2_with fail
          refine (pSameTexts_same KS NK 0 _ 0 _ _ _ _ K1_15.out K2_s.out (Nat.le_refl _) (Nat.le_refl _) (by have := HKL.out; omega)).mono ?_
          rintro e v16 ⟨rfl, hb⟩
          have HB_17 := hide (HB_15.out.bel hb)
          clear HB_15
          have C1_17 := hide (C1_15.out.bel hb)
          clear C1_15
          have L1_17 := hide (L1_15.out.bel hb)
          clear L1_15
          have K1_17 := hide (K1_15.out.bel hb)
          clear K1_15
          have K2_17 := hide (K2_s.out.bel hb)
          clear K2_s
          clear hb
          have hr3 := HF3.out
          have dR : decide (R < 0) = false := decide_eq_false (by omega)
          clear hr3
          cases an with
          | true =>
            obtain rfl : R = 0 := HF4.out rfl
            go_wp2_with fail
            refine (pHas_any KS s1 NK 0 _ _ _ K2_17.out (Nat.le_refl _) HKL.out).mono ?_
            rintro e v18 ⟨rfl, hb⟩
            rw [HHS.out]
            have HB_19 := hide (HB_17.out.bel hb)
            clear HB_17
            have C1_19 := hide (C1_17.out.bel hb)
            clear C1_17
            have L1_19 := hide (L1_17.out.bel hb)
            clear L1_17
            have K1_19 := hide (K1_17.out.bel hb)
            clear K1_17
            have K2_19 := hide (K2_17.out.bel hb)
            clear K2_17
            clear hb
            go_wp2_with fail
            go_meet
            case rel => exact ⟨HB_19, C1_19, L1_19⟩
          | false =>
            go_wp2_with fail
            refine (pHas_any KS s1 NK 0 _ _ _ K2_17.out (Nat.le_refl _) HKL.out).mono ?_
            rintro e v18 ⟨rfl, hb⟩
            rw [HHS.out]
            have HB_19 := hide (HB_17.out.bel hb)
            clear HB_17
            have C1_19 := hide (C1_17.out.bel hb)
            clear C1_17
            have L1_19 := hide (L1_17.out.bel hb)
            clear L1_17
            have K1_19 := hide (K1_17.out.bel hb)
            clear K1_17
            have K2_19 := hide (K2_17.out.bel hb)
            clear K2_17
            clear hb
            by_cases hR0 : 0 < R
            · skip
              have d1 : decide (0 < R) = true := decide_eq_true (by omega)
              have hw := (HF5.out hR0).2
              have dw : (wk == 0) = false := by simp; omega
              clear hw hR0
              go_wp2_with fail
              refine (pHas_any KS s1 NK 0 _ _ _ K2_19.out (Nat.le_refl _) HKL.out).mono ?_
              rintro e v20 ⟨rfl, hb⟩
              rw [HHS.out]
              have HB_21 := hide (HB_19.out.bel hb)
              clear HB_19
              have C1_21 := hide (C1_19.out.bel hb)
              clear C1_19
              have L1_21 := hide (L1_19.out.bel hb)
              clear L1_19
              have K1_21 := hide (K1_19.out.bel hb)
              clear K1_19
              have K2_21 := hide (K2_19.out.bel hb)
              clear K2_19
              clear hb
              go_wp2_with fail
              go_meet
              case rel => exact ⟨HB_21, C1_21, L1_21⟩
            · skip
              have d1 : decide (0 < R) = false := decide_eq_false (by omega)
              clear hR0
              go_wp2_with fail
              go_meet
              case rel => exact ⟨HB_19, C1_19, L1_19⟩
      case rest => as_aux_lemma =>
        obtain ⟨HB_12, C1_12, L1_12⟩ := hcut
        clear L1_12
        go_wp2_with fail
        refine (DrawIsDue_any _ _ C1_12.out).mono ?_
        rintro e v13 ⟨u2, n2, c2, a2, b2, s2, x2, y2, rfl, hn, hcs, hs2, hl, hb⟩
        have HB_14 := hide (HB_12.out.bel hb)
        clear HB_12
        have C1_14 := hide (C1_12.out.bel hb)
        clear C1_12
        obtain ⟨A2, k2, rfl, _, _⟩ := id hl.open_
        have L2_s : Hid (SlW v13 3 (.slice A2 n2 k2) n2 (siiC c2 a2 b2)) := SlW.of hl (Nat.le_refl _)
        have HPF2 : Hid (pfits c2 n2) := ⟨by omega, fun i hi => by have := hcs i hi; unfold maxLen; omega⟩
        have HN2 := hide hn
        have HC2 := hide hcs
        have HS2 : Hid (s2.size ≤ maxLen) := by show s2.size ≤ _; unfold maxLen; omega
        clear hl hn hcs hb hs2
        obtain ⟨d, hd⟩ : ∃ z, dueR c2 a2 b2 n2 s2 x2 y2 = z := ⟨_, rfl⟩
        have HD := hide hd
        clear hd
        obtain ⟨three, hthree⟩ : ∃ z, dueOk c2 a2 b2 n2 s2 x2 y2 = z := ⟨_, rfl⟩
        have HTH := hide hthree
        clear hthree
        go_wp2_with fail
        refine (IsDue_impl c2 a2 b2 n2 s2 x2 y2 0 _ _ _ L2_s.out (Nat.le_refl _) HPF2.out HS2.out).mono ?_
        rintro e v15 ⟨rfl, hb⟩
        rw [HD.out, HTH.out]
        have HB_16 := hide (HB_14.out.bel hb)
        clear HB_14
        have C1_16 := hide (C1_14.out.bel hb)
        clear C1_14
        have L2_16 := hide (L2_s.out.bel hb)
        clear L2_s
        clear hb
        go_wp2_with fail
        refine (IsDue_spec c2 a2 b2 n2 s2 x2 y2 0 _ _ _ L2_16.out (Nat.le_refl _) HPF2.out HS2.out).mono ?_
        rintro e v17 ⟨rfl, hb⟩
        rw [HD.out, HTH.out]
        have HB_18 := hide (HB_16.out.bel hb)
        clear HB_16
        have C1_18 := hide (C1_16.out.bel hb)
        clear C1_16
        have L2_18 := hide (L2_16.out.bel hb)
        clear L2_16
        clear hb
        go_upto_if 201 with fail
        go_cut [] from 28 to 253 (fun wx => Hid (BelW w wx) ∧ Hid (Code wx (.slice B mm capB)) ∧ Hid (SlW wx 3 (.slice A2 n2 k2) n2 (siiC c2 a2 b2)))
        case first => as_aux_lemma =>
          cases three with
          | false =>
            go_wp2_with fail
            go_meet
            case rel => exact ⟨HB_18, C1_18, L2_18⟩
          | true =>
            obtain ⟨h1, h2, h3⟩ := due_parts HTH.out
            have HAK2 := hide h1
            have HDC := hide h2
            have HHS := hide (dues_has (s := s2) h2)
            rw [HD.out] at h3
            have HDB : Hid (dueB c2 a2 b2 s2 x2 n2 y2 = d) := h3.symm
            rw [HDB.out] at HHS
            clear h1 h2 h3
            have HKL : Hid (dcN c2 a2 b2 n2 x2 y2 ≤ 1048576) := dcN_le
            obtain ⟨wk2, hwk2⟩ : ∃ z, wkN c2 a2 b2 n2 s2 x2 = z := ⟨_, rfl⟩
            have HWK2 := hide hwk2
            clear hwk2
            obtain ⟨NK, hNK⟩ : ∃ z, dcN c2 a2 b2 n2 x2 y2 = z := ⟨_, rfl⟩
            have HNK := hide hNK
            clear hNK
            obtain ⟨KS, hKS⟩ : ∃ z, dcS c2 a2 b2 n2 x2 y2 = z := ⟨_, rfl⟩
            have HKS := hide hKS
            clear hKS
            rw [HNK.out] at HHS HKL
            rw [HKS.out] at HHS
            go_wp2_with fail
            refine (DueCrews_impl c2 a2 b2 n2 x2 y2 0 _ _ _ L2_18.out (Nat.le_refl _) HPF2.out).mono ?_
            rintro e v19 ⟨st, rfl, ho, hb⟩
            rw [HDC.out]
            rw [HNK.out, HKS.out] at ho
            have HB_20 := hide (HB_18.out.bel hb)
            clear HB_18
            have C1_20 := hide (C1_18.out.bel hb)
            clear C1_18
            have L2_20 := hide (L2_18.out.bel hb)
            clear L2_18
            obtain ⟨K1, ck1, rfl, _, _⟩ := id ho.sl.open_
            have K1_s : Hid (SlW v19 1 (.slice K1 NK ck1) NK (sC KS)) := SlW.of ho.sl (Nat.le_refl _)
            clear ho hb
            go_wp2_with fail
            refine (DueCrews_spec c2 a2 b2 n2 x2 y2 0 _ _ _ L2_20.out (Nat.le_refl _) HPF2.out).mono ?_
            rintro e v21 ⟨st, rfl, ho, hb⟩
            rw [HDC.out]
            rw [HNK.out, HKS.out] at ho
            have HB_22 := hide (HB_20.out.bel hb)
            clear HB_20
            have C1_22 := hide (C1_20.out.bel hb)
            clear C1_20
            have L2_22 := hide (L2_20.out.bel hb)
            clear L2_20
            have K1_22 := hide (K1_s.out.bel hb)
            clear K1_s
            obtain ⟨K2, ck2, rfl, _, _⟩ := id ho.sl.open_
            have K2_s : Hid (SlW v21 1 (.slice K2 NK ck2) NK (sC KS)) := SlW.of ho.sl (Nat.le_refl _)
            clear ho hb
            go_wp2_with fail
            refine (WorkedBy_impl c2 a2 b2 n2 s2 x2 0 _ _ _ L2_22.out (Nat.le_refl _) HPF2.out HS2.out).mono ?_
            rintro e v23 ⟨rfl, hb⟩
            rw [HWK2.out, HAK2.out]
            have HB_24 := hide (HB_22.out.bel hb)
            clear HB_22
            have C1_24 := hide (C1_22.out.bel hb)
            clear C1_22
            have L2_24 := hide (L2_22.out.bel hb)
            clear L2_22
            have K1_24 := hide (K1_22.out.bel hb)
            clear K1_22
            have K2_24 := hide (K2_s.out.bel hb)
            clear K2_s
            clear hb
            go_wp2_with fail
            refine (pSameTexts_same KS NK 0 _ 0 _ _ _ _ K1_24.out K2_24.out (Nat.le_refl _) (Nat.le_refl _) (by have := HKL.out; omega)).mono ?_
            rintro e v25 ⟨rfl, hb⟩
            have HB_26 := hide (HB_24.out.bel hb)
            clear HB_24
            have C1_26 := hide (C1_24.out.bel hb)
            clear C1_24
            have L2_26 := hide (L2_24.out.bel hb)
            clear L2_24
            have K1_26 := hide (K1_24.out.bel hb)
            clear K1_24
            have K2_26 := hide (K2_24.out.bel hb)
            clear K2_24
            clear hb
            go_wp2_with fail
            refine (pHas_any KS s2 NK 0 _ _ _ K2_26.out (Nat.le_refl _) HKL.out).mono ?_
            rintro e v27 ⟨rfl, hb⟩
            rw [HHS.out]
            have HB_28 := hide (HB_26.out.bel hb)
            clear HB_26
            have C1_28 := hide (C1_26.out.bel hb)
            clear C1_26
            have L2_28 := hide (L2_26.out.bel hb)
            clear L2_26
            have K1_28 := hide (K1_26.out.bel hb)
            clear K1_26
            have K2_28 := hide (K2_26.out.bel hb)
            clear K2_26
            clear hb
            cases d with
            | false =>
              go_wp2_with fail
              go_meet
              case rel => exact ⟨HB_28, C1_28, L2_28⟩
            | true =>
              have hw := due_worked HAK2.out HDB.out
              rw [HWK2.out] at hw
              have dw : decide (wk2 < y2) = false := decide_eq_false (by omega)
              clear hw
              go_wp2_with fail
              go_meet
              case rel => exact ⟨HB_28, C1_28, L2_28⟩
        case rest => as_aux_lemma =>
          obtain ⟨HB_19, C1_19, L2_19⟩ := hcut
          go_wp2_with fail
          refine (DrawLongSpells_any _ _ C1_19.out).mono ?_
          rintro e v20 ⟨u3, n3, c3, a3, b3, x3, rfl, hn, hcs, hl, hb⟩
          have HB_21 := hide (HB_19.out.bel hb)
          clear HB_19
          have C1_21 := hide (C1_19.out.bel hb)
          clear C1_19
          have L2_21 := hide (L2_19.out.bel hb)
          clear L2_19
          obtain ⟨A3, k3, rfl, _, _⟩ := id hl.open_
          have L3_s : Hid (SlW v20 3 (.slice A3 n3 k3) n3 (siiC c3 a3 b3)) := SlW.of hl (Nat.le_refl _)
          have HPF3 : Hid (pfits c3 n3) := ⟨by omega, fun i hi => by have := hcs i hi; unfold maxLen; omega⟩
          have HN3 := hide hn
          have HC3 := hide hcs
          clear hl hn hcs hb 
          obtain ⟨five, hfive⟩ : ∃ z, lsOk c3 a3 b3 n3 x3 = z := ⟨_, rfl⟩
          have HFI := hide hfive
          clear hfive
          obtain ⟨NG, hNG⟩ : ∃ z, (flt (lsQ c3 a3 b3 n3 x3) n3).length = z := ⟨_, rfl⟩
          have HNG := hide hNG
          clear hNG
          obtain ⟨GI, hGI⟩ : ∃ z, fltI (lsQ c3 a3 b3 n3 x3) n3 = z := ⟨_, rfl⟩
          have HGI := hide hGI
          clear hGI
          have HNGL : Hid (NG ≤ 1048576) := by show NG ≤ _; rw [← HNG.out]; have h1 := flt_len (lsQ c3 a3 b3 n3 x3) n3; have h2 := HN3.out; omega
          go_wp2_with fail
          refine (LongSpells_impl c3 a3 b3 n3 x3 0 _ _ _ L3_s.out (Nat.le_refl _) HPF3.out).mono ?_
          rintro e v22 ⟨st, rfl, ho, hb⟩
          rw [HFI.out]
          rw [HNG.out, HGI.out] at ho
          have HB_23 := hide (HB_21.out.bel hb)
          clear HB_21
          have C1_23 := hide (C1_21.out.bel hb)
          clear C1_21
          have L2_23 := hide (L2_21.out.bel hb)
          clear L2_21
          have L3_23 := hide (L3_s.out.bel hb)
          clear L3_s
          obtain ⟨G1, kg1, rfl, _, _⟩ := id ho.sl.open_
          have G1_s : Hid (SlW v22 1 (.slice G1 NG kg1) NG (iC GI)) := SlW.of ho.sl (Nat.le_refl _)
          clear ho hb
          go_wp2_with fail
          refine (LongSpells_spec c3 a3 b3 n3 x3 0 _ _ _ L3_23.out (Nat.le_refl _) HPF3.out).mono ?_
          rintro e v24 ⟨st, rfl, ho, hb⟩
          rw [HFI.out]
          rw [HNG.out, HGI.out] at ho
          have HB_25 := hide (HB_23.out.bel hb)
          clear HB_23
          have C1_25 := hide (C1_23.out.bel hb)
          clear C1_23
          have L2_25 := hide (L2_23.out.bel hb)
          clear L2_23
          have L3_25 := hide (L3_23.out.bel hb)
          clear L3_23
          have G1_25 := hide (G1_s.out.bel hb)
          clear G1_s
          obtain ⟨G2, kg2, rfl, _, _⟩ := id ho.sl.open_
          have G2_s : Hid (SlW v24 1 (.slice G2 NG kg2) NG (iC GI)) := SlW.of ho.sl (Nat.le_refl _)
          clear ho hb
          clear L3_25
          go_wp2_with fail
          refine (DrawShortRests_any _ _ C1_25.out).mono ?_
          rintro e v26 ⟨u4, n4, c4, a4, b4, x4, rfl, hn, hcs, hl, hb⟩
          have HB_27 := hide (HB_25.out.bel hb)
          clear HB_25
          have C1_27 := hide (C1_25.out.bel hb)
          clear C1_25
          have L2_27 := hide (L2_25.out.bel hb)
          clear L2_25
          have G1_27 := hide (G1_25.out.bel hb)
          clear G1_25
          have G2_27 := hide (G2_s.out.bel hb)
          clear G2_s
          obtain ⟨A4, k4, rfl, _, _⟩ := id hl.open_
          have L4_s : Hid (SlW v26 3 (.slice A4 n4 k4) n4 (siiC c4 a4 b4)) := SlW.of hl (Nat.le_refl _)
          have HPF4 : Hid (pfits c4 n4) := ⟨by omega, fun i hi => by have := hcs i hi; unfold maxLen; omega⟩
          have HN4 := hide hn
          have HC4 := hide hcs
          clear hl hn hcs hb 
          obtain ⟨seven, hseven⟩ : ∃ z, srOk c4 a4 b4 n4 x4 = z := ⟨_, rfl⟩
          have HSV := hide hseven
          clear hseven
          obtain ⟨NQ, hNQ⟩ : ∃ z, (flt (srQ c4 a4 b4 n4 x4) n4).length = z := ⟨_, rfl⟩
          have HNQ := hide hNQ
          clear hNQ
          obtain ⟨QI, hQI⟩ : ∃ z, fltI (srQ c4 a4 b4 n4 x4) n4 = z := ⟨_, rfl⟩
          have HQI := hide hQI
          clear hQI
          go_wp2_with fail
          refine (ShortRests_impl c4 a4 b4 n4 x4 0 _ _ _ L4_s.out (Nat.le_refl _) HPF4.out).mono ?_
          rintro e v28 ⟨st, rfl, ho, hb⟩
          rw [HSV.out]
          rw [HNQ.out, HQI.out] at ho
          have HB_29 := hide (HB_27.out.bel hb)
          clear HB_27
          have C1_29 := hide (C1_27.out.bel hb)
          clear C1_27
          have L2_29 := hide (L2_27.out.bel hb)
          clear L2_27
          have G1_29 := hide (G1_27.out.bel hb)
          clear G1_27
          have G2_29 := hide (G2_27.out.bel hb)
          clear G2_27
          have L4_29 := hide (L4_s.out.bel hb)
          clear L4_s
          obtain ⟨Q1, kq1, rfl, _, _⟩ := id ho.sl.open_
          have Q1_s : Hid (SlW v28 1 (.slice Q1 NQ kq1) NQ (iC QI)) := SlW.of ho.sl (Nat.le_refl _)
          clear ho hb
          go_wp2_with fail
          refine (ShortRests_spec c4 a4 b4 n4 x4 0 _ _ _ L4_29.out (Nat.le_refl _) HPF4.out).mono ?_
          rintro e v30 ⟨st, rfl, ho, hb⟩
          rw [HSV.out]
          rw [HNQ.out, HQI.out] at ho
          have HB_31 := hide (HB_29.out.bel hb)
          clear HB_29
          have C1_31 := hide (C1_29.out.bel hb)
          clear C1_29
          have L2_31 := hide (L2_29.out.bel hb)
          clear L2_29
          have G1_31 := hide (G1_29.out.bel hb)
          clear G1_29
          have G2_31 := hide (G2_29.out.bel hb)
          clear G2_29
          have L4_31 := hide (L4_29.out.bel hb)
          clear L4_29
          have Q1_31 := hide (Q1_s.out.bel hb)
          clear Q1_s
          obtain ⟨Q2, kq2, rfl, _, _⟩ := id ho.sl.open_
          have Q2_s : Hid (SlW v30 1 (.slice Q2 NQ kq2) NQ (iC QI)) := SlW.of ho.sl (Nat.le_refl _)
          clear ho hb
          go_wp2_with fail
          refine (DrawNextRelief_any _ _ C1_31.out).mono ?_
          rintro e v32 ⟨u5, n5, c5, a5, b5, s5, x5, rfl, hn, hcs, hs5, hl, hb⟩
          have HB_33 := hide (HB_31.out.bel hb)
          clear HB_31
          have C1_33 := hide (C1_31.out.bel hb)
          clear C1_31
          have L2_33 := hide (L2_31.out.bel hb)
          clear L2_31
          have G1_33 := hide (G1_31.out.bel hb)
          clear G1_31
          have G2_33 := hide (G2_31.out.bel hb)
          clear G2_31
          have L4_33 := hide (L4_31.out.bel hb)
          clear L4_31
          have Q1_33 := hide (Q1_31.out.bel hb)
          clear Q1_31
          have Q2_33 := hide (Q2_s.out.bel hb)
          clear Q2_s
          obtain ⟨A5, k5, rfl, _, _⟩ := id hl.open_
          have L5_s : Hid (SlW v32 3 (.slice A5 n5 k5) n5 (siiC c5 a5 b5)) := SlW.of hl (Nat.le_refl _)
          have HPF5 : Hid (pfits c5 n5) := ⟨by omega, fun i hi => by have := hcs i hi; unfold maxLen; omega⟩
          have HN5 := hide hn
          have HC5 := hide hcs
          have HS5 : Hid (s5.size ≤ maxLen) := by show s5.size ≤ _; unfold maxLen; omega
          clear hl hn hcs hb hs5
          clear C1_33
          obtain ⟨nx, hnx⟩ : ∃ z, nxR c5 a5 b5 n5 s5 x5 = z := ⟨_, rfl⟩
          have HNX := hide hnx
          clear hnx
          obtain ⟨nine, hnine⟩ : ∃ z, nxOk c5 a5 b5 n5 s5 x5 = z := ⟨_, rfl⟩
          have HNI := hide hnine
          clear hnine
          go_wp2_with fail
          refine (NextRelief_impl c5 a5 b5 n5 s5 x5 0 _ _ _ L5_s.out (Nat.le_refl _) HPF5.out HS5.out).mono ?_
          rintro e v34 ⟨rfl, hb⟩
          rw [HNX.out, HNI.out]
          have HB_35 := hide (HB_33.out.bel hb)
          clear HB_33
          have L2_35 := hide (L2_33.out.bel hb)
          clear L2_33
          have G1_35 := hide (G1_33.out.bel hb)
          clear G1_33
          have G2_35 := hide (G2_33.out.bel hb)
          clear G2_33
          have L4_35 := hide (L4_33.out.bel hb)
          clear L4_33
          have Q1_35 := hide (Q1_33.out.bel hb)
          clear Q1_33
          have Q2_35 := hide (Q2_33.out.bel hb)
          clear Q2_33
          have L5_35 := hide (L5_s.out.bel hb)
          clear L5_s
          clear hb
          go_wp2_with fail
          refine (NextRelief_spec c5 a5 b5 n5 s5 x5 0 _ _ _ L5_35.out (Nat.le_refl _) HPF5.out HS5.out).mono ?_
          rintro e v36 ⟨rfl, hb⟩
          rw [HNX.out, HNI.out]
          have HB_37 := hide (HB_35.out.bel hb)
          clear HB_35
          have L2_37 := hide (L2_35.out.bel hb)
          clear L2_35
          have G1_37 := hide (G1_35.out.bel hb)
          clear G1_35
          have G2_37 := hide (G2_35.out.bel hb)
          clear G2_35
          have L4_37 := hide (L4_35.out.bel hb)
          clear L4_35
          have Q1_37 := hide (Q1_35.out.bel hb)
          clear Q1_35
          have Q2_37 := hide (Q2_35.out.bel hb)
          clear Q2_35
          have L5_37 := hide (L5_35.out.bel hb)
          clear L5_35
          clear hb
          clear L5_37
          go_wp2_with fail
          refine (sameInts_same GI NG 0 _ 0 _ _ _ _ G1_37.out G2_37.out (Nat.le_refl _) (Nat.le_refl _) HNGL.out).mono ?_
          rintro e v38 ⟨rfl, hb⟩
          have HB_39 := hide (HB_37.out.bel hb)
          clear HB_37
          have L2_39 := hide (L2_37.out.bel hb)
          clear L2_37
          have G1_39 := hide (G1_37.out.bel hb)
          clear G1_37
          have G2_39 := hide (G2_37.out.bel hb)
          clear G2_37
          have L4_39 := hide (L4_37.out.bel hb)
          clear L4_37
          have Q1_39 := hide (Q1_37.out.bel hb)
          clear Q1_37
          have Q2_39 := hide (Q2_37.out.bel hb)
          clear Q2_37
          clear hb
          clear G1_39
          clear G2_39
          go_wp2_with fail
          refine (sameInts_same QI NQ 0 _ 0 _ _ _ _ Q1_39.out Q2_39.out (Nat.le_refl _) (Nat.le_refl _) (by rw [← HNQ.out]; have h1 := flt_len (srQ c4 a4 b4 n4 x4) n4; have h2 := HN4.out; omega)).mono ?_
          rintro e v40 ⟨rfl, hb⟩
          have HB_41 := hide (HB_39.out.bel hb)
          clear HB_39
          have L2_41 := hide (L2_39.out.bel hb)
          clear L2_39
          have L4_41 := hide (L4_39.out.bel hb)
          clear L4_39
          have Q1_41 := hide (Q1_39.out.bel hb)
          clear Q1_39
          have Q2_41 := hide (Q2_39.out.bel hb)
          clear Q2_39
          clear hb
          clear Q1_41
          have HX4 : Hid (seven = true → x4 ≤ 720) := fun h => by have h2 := HSV.out.trans h; simp only [srOk, Bool.and_eq_true, inB_iff] at h2; omega
          go_upto_if 338 with fail
          go_cut [] from 53 to 369 (fun wx => Hid (BelW w wx) ∧ Hid (SlW wx 3 (.slice A2 n2 k2) n2 (siiC c2 a2 b2)) ∧ Hid (SlW wx 3 (.slice A4 n4 k4) n4 (siiC c4 a4 b4)) ∧ Hid (SlW wx 1 (.slice Q2 NQ kq2) NQ (iC QI)))
          case first => as_aux_lemma =>
            cases seven with
            | false =>
              go_wp2_with fail
              go_meet
              case rel => exact ⟨HB_41, L2_41, L4_41, Q2_41⟩
            | true =>
              have HSR : Hid (∀ t, t < NQ → ∃ k : Nat, k < n4 ∧ QI t = (k : Int) ∧ 1 ≤ a4 k ∧ a4 k ≤ 9999 ∧ restOk c4 a4 b4 n4 (c4 k) (a4 k - 1) = true ∧ restN c4 a4 b4 n4 (c4 k) (a4 k - 1) + 1 < x4 ∧ 0 ≤ restN c4 a4 b4 n4 (c4 k) (a4 k - 1)) := fun t ht => by
                have ht2 : t < (flt (srQ c4 a4 b4 n4 x4) n4).length := by rw [HNQ.out]; exact ht
                obtain ⟨k, hk, hq, e⟩ := flt_idx ht2
                rw [HQI.out] at e
                simp only [srQ, Bool.and_eq_true] at hq
                obtain ⟨h1, h2⟩ := short_rest HSV.out hk hq.2
                have h3 := ask_facts (rest_facts h1).1
                have h4 := (perB_iff.1 ((pd_facts h3.1).2 k hk).1).2
                exact ⟨k, hk, e, by omega, by omega, h1, h2, (rest_facts h1).2.2.1⟩
              have HNQL : Hid (NQ ≤ 13) := by show NQ ≤ 13; rw [← HNQ.out]; have h1 := flt_len (srQ c4 a4 b4 n4 x4) n4; have h2 := HN4.out; omega
              go_wp2_with fail
              go_loopg [341] (NQ + 1) (fun gn iv wr => ∃ t : Nat, t ≤ NQ ∧ NQ - t < gn ∧ iv = .int .i64 t ∧ Hid (BelW v40 wr))
              case atStart => exact ⟨0, by omega, by omega, rfl, Below.refl _ _⟩
              case round =>
                obtain ⟨t, ht, hgn, rfl, HL⟩ := hrel
                have hbl : Below v40.heap.size v40 wr := HL.out
                have HB_L := hide (HB_41.out.bel hbl)
                have L2_L := hide (L2_41.out.bel hbl)
                have L4_L := hide (L4_41.out.bel hbl)
                have Q2_L := hide (Q2_41.out.bel hbl)
                clear hbl HB_41 L2_41 L4_41 Q2_41
                have hbnd := HNQL.out
                by_cases htn : t < NQ
                · skip
                  obtain ⟨qb, qo, hqb⟩ := SlW.form Q2_L.out (by omega)
                  subst hqb
                  obtain ⟨ci, li⟩ := SlW.i1 Q2_L.out htn
                  obtain ⟨k, hk, e1, e2, e3, e4, e5, e6⟩ := HSR.out t htn
                  rw [e1] at ci
                  obtain ⟨yb, yo, hyb⟩ := SlW.form L4_L.out (by omega)
                  subst hyb
                  obtain ⟨p0, p1, p2, pl⟩ := SlW.p3 L4_L.out hk
                  have hsz : (c4 k).size ≤ maxLen := by have := HC4.out k hk; unfold maxLen; omega
                  obtain ⟨rr, hrr⟩ : ∃ z, restN c4 a4 b4 n4 (c4 k) (a4 k - 1) = z := ⟨_, rfl⟩
                  have hRC : ∀ W, Below wr.heap.size wr W → Calls Try.prog 6 #[.slice (some ⟨yb, yo, none⟩) n4 k4, .string (c4 k), .int .i64 (a4 k - 1)] W fun e w' => e = .returned (.tuple #[.int .i64 rr, .bool true]) ∧ Below W.heap.size W w' := fun W hW => by
                    have h := RestOf_impl c4 a4 b4 n4 (c4 k) (a4 k - 1) 0 _ _ W (Sl.below (B := wr.heap.size) L4_L.out hW (Nat.le_refl _)) hW.size HPF4.out hsz
                    rw [hrr, e4] at h
                    exact h
                  have HRC := hide hRC
                  rw [hrr] at e5 e6
                  obtain ⟨sk, hsk⟩ : ∃ z, c4 k = z := ⟨_, rfl⟩
                  obtain ⟨ak4, hak⟩ : ∃ z, a4 k = z := ⟨_, rfl⟩
                  rw [hsk] at p0 HRC
                  rw [hak] at p1 HRC e2 e3
                  have z1 : IntKind.i64.wrap (ak4 - 1) = ak4 - 1 := IntWalk.i64_in _ (by omega)
                  have z2 : IntKind.i64.wrap (rr + 1) = rr + 1 ∨ True := .inr trivial
                  have hkn : (k : Int) < (n4 : Int) := by omega
                  clear hRC e1 e4 hrr hsk hak hsz p2 z2
                  go_wp2_with fail
                  (refine wp_region_below_lit (by kernel_rfl) (by kernel_rfl) ?_; (repeat (first | go_big_quiet_step ((go_at_call 6; exact quiet_ov (HRC.out _ (ov_below _ _)))) | quiet_step ((go_at_call 6; exact quiet_ov (HRC.out _ (ov_below _ _)))))); refine wpQuiet_nil ?_; intro w41 hb41; have hz41 := hb41.size; (try (simp at hz41)); obtain ⟨hcw41, hfw41⟩ := bcell hb41; (try (have hy41 : w.heap.size < w41.heap.size := by omega)); (try (have hyy41 : w.heap.size + 1 < w41.heap.size := by omega)))
                  have hb : Below wr.heap.size wr w41 := (by repeat (first | (with_reducible exact Below.refl _ _) | (with_reducible refine below_ov ?_ ?_) | (with_reducible refine Below.setCell ?_ ?_ _) | (with_reducible refine Below.alloc ?_ ?_ _) | (with_reducible refine Below.drew ?_) | (with_reducible refine below_drewN ?_ _) | (refine Below.trans ?_ (Below.mono ‹Below _ _ _› (by first | omega | (simp; done) | (simp; omega)))) | exact Below.refl _ _ | omega | (focus (simp; done)) | (focus (simp; omega))))
                  clear hb41 hcw41 hfw41
                  have HB_42 := hide (HB_L.out.bel hb)
                  clear HB_L
                  have L2_42 := hide (L2_L.out.bel hb)
                  clear L2_L
                  have L4_42 := hide (L4_L.out.bel hb)
                  clear L4_L
                  have Q2_42 := hide (Q2_L.out.bel hb)
                  clear Q2_L
                  have HL_42 := hide (HL.out.bel hb)
                  clear HL
                  clear hb hz41
                  have h4n := HX4.out (by simp)
                  have z3 : IntKind.i64.wrap (rr + 1) = rr + 1 := IntWalk.i64_in _ (by omega)
                  have dge : decide (x4 ≤ rr + 1) = false := decide_eq_false (by omega)
                  have dge2 : decide (rr + 1 ≥ x4) = false := decide_eq_false (by omega)
                  clear p0 p1 pl ci li e5 e6 e2 e3
                  go_wp2_with fail
                  go_roundg (NQ - t)
                  case measure => omega
                  case rel => exact ⟨t + 1, by omega, by omega, by go_num, HL_42⟩
                · skip
                  have ek : NQ = t := by omega
                  clear htn ht hgn
                  subst ek
                  go_wp2_with fail
                  go_meet
                  case rel => exact ⟨HB_L, L2_L, L4_L, Q2_L⟩
          case rest => as_aux_lemma =>
            obtain ⟨HB_42, L2_42, L4_42, Q2_42⟩ := hcut
            go_wp2_with fail
            go_ret
            exact ⟨rfl, HB_42.out⟩

set_option maxRecDepth 100000 in
theorem FnWorkTimes_lifted (os : Os) (started : os.Started) (H : Type) (enc : TypeId × Value → H) :
    ReturnsInHanded {} Try.checked os 3 .any (Rows.fnWorkTimesSpec.pre6 enc Try.prog Try.f3 Rows.fnWorkTimesRow.domain false) (Rows.fnWorkTimesSpec.post enc Try.prog Try.f3 false true false false) := by
  refine returnsInHanded_of_change_sized (C := Try.checked) Try.own started (by kernel_rfl) Try.func3
    (ChangeSpec.witness6 (enc := enc) (C := Try.checked) false ⟨#[], #[.slice none 0 0, .slice none 0 0], []⟩ 8 (by kernel_rfl) (by kernel_rfl) (by kernel_rfl) (by kernel_rfl)) ?_
  intro W base args ds gs before hval0 hW _ hsz _
  have hval : ∀ (j : Nat) t v, Try.f3.params[j]? = some t → args[j]? = some v → Value.okWide Try.prog W .any base t v := hval0
  have hW' := hW
  obtain ⟨p, q, hA0, hV, rfl, hfz, hnd⟩ := hW
  have hA : DataW.TrodAll enc Try.prog W 0 (fun _ => true) true Try.f3.params.toList args.toList ds p := hA0
  rw [Try.params3] at hA hval
  obtain ⟨v0, vs0, d0, ds0, p0, q0, hargs, rfl, rfl, h0, r0⟩ := trodAll_cons hA
  obtain ⟨v1, vs1, d1, ds1, p1, q1, rfl, rfl, rfl, h1, r1⟩ := trodAll_cons r0
  obtain ⟨rfl, rfl, rfl⟩ := trodAll_nil r1
  obtain rfl : args = #[v0, v1] := by cases args; simp_all
  obtain ⟨rfl, rfl⟩ := trodVars_none hV
  have hend : ∀ W', Below W.heap.size W W' → Rows.fnWorkTimesSpec.post enc Try.prog Try.f3 false true false false W #[v0, v1] (.bool true) W' := fun W' hb =>
    law_post (T := 4) Try.laidOut rfl (by kernel_rfl) rfl Try.underlying4 hW' rfl hb
  clear hW' hA0 hval0
  obtain ⟨A, n, cap, rfl, hk0, hm0, hA0⟩ := openByte (hval 0 _ v0 rfl rfl) h0
  obtain ⟨B, mm, capB, rfl, hk1, hm1, hA1⟩ := openByte (hval 1 _ v1 rfl rfl) h1
  refine (FnWorkTimes_walk A n cap B mm capB W hA0 hA1).mono fun e W' ⟨he, hb⟩ => ?_
  subst he
  exact ⟨_, rfl, hend W' hb⟩
/-- The statement. -/
theorem FnWorkTimes_holds : Rows.FnWorkTimesSaid :=
  OpenClaim.holds_of_wide 3 Try.f3 rfl rfl rfl rfl rfl rfl rfl ⟨rfl, rfl, rfl, rfl, rfl⟩ rfl rfl rfl rfl rfl (by kernel_rfl) Try.func3 (show joinedFacts Try.prog 3 Try.f3 Rows.fnWorkTimesSpec Rows.fnWorkTimesRow = true from by unfold joinedFacts; rw [Try.heard, Try.enters, Try.lifts, Try.laidOut, Try.rowed, Try.made]; kernel_rfl)
    (of_decide_eq_true (by kernel_rfl)) (by unfold Func.isWrapper; first | (rw [if_pos (by decide +kernel)]; kernel_rfl) | (rw [if_neg (by decide +kernel)]; exact ⟨rfl, rfl⟩))
    (fun os started H enc _ => FnWorkTimes_lifted os started H enc)
#print axioms FnWorkTimes_holds
end Go.Proofs.Ythchfnkljmoenaa
