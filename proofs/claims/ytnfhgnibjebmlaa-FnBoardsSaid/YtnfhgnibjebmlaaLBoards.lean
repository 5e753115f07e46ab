/-
  FnBoards: the law returns true at every input. No condition.
-/
import Derived.Test.YtnfhgnibjebmlaaQ14
import Derived.Deep.Cut
import Derived.Deep.CutRange
namespace Go.Proofs.Ytnfhgnibjebmlaa
set_option linter.unusedVariables false
set_option linter.unusedSimpArgs false
open Go.ChangeShapes Go.WideShapes Go.ChangeAt Go.RowKit Go.Joins Go.Deep

set_option maxHeartbeats 800000 in
theorem big_any (A : Option Addr) (n cap : Nat) (B : Option Addr) (m capB : Nat) (w : World) (hn : n ≤ 9223372036854775807) (hm : m ≤ 9223372036854775807) :
    Calls Try.prog 4 #[.slice A n cap, .slice B m capB] w fun e w' => (∃ b : Bool, e = .returned (.bool b)) ∧ w = w' := by
  by_cases h : n > 1048576
  · have d : decide ((n : Int) > 1048576) = true := decide_eq_true (by omega)
    have d' : decide (1048576 < n) = true := decide_eq_true (by omega)
    go_enter Try.func4, Try.ntmps4
    go_wp2_with fail
    go_ret
    exact ⟨⟨_, rfl⟩, rfl⟩
  · have d : decide ((n : Int) > 1048576) = false := decide_eq_false (by omega)
    have d' : decide (1048576 < n) = false := decide_eq_false (by omega)
    have z : IntKind.i64.wrap (1048576 - (n : Int)) = 1048576 - (n : Int) := IntWalk.i64_in _ (by omega)
    go_enter Try.func4, Try.ntmps4
    go_wp2_with fail
    go_ret
    exact ⟨⟨_, rfl⟩, rfl⟩
set_option maxRecDepth 100000 in
set_option maxHeartbeats 12800000 in
theorem FnBoards_walk (A : Option Addr) (n cap : Nat) (B : Option Addr) (mm capB : Nat) (w : World) (hc : Code w (.slice A n cap)) (hm : Code w (.slice B mm capB)) :
    Calls Try.prog 3 #[.slice A n cap, .slice B mm capB] w fun e w' => e = .returned (.bool true) ∧ Below w.heap.size w w' := by
  go_enter Try.func3, Try.ntmps3
  go_wp2_with fail
  refine (big_any A n cap B mm capB w hc.len hm.len).mono ?_
  rintro e w0 ⟨⟨b0, rfl⟩, rfl⟩
  cases b0 with
  | true =>
    go_wp2_with fail
    go_ret
    exact ⟨rfl, Below.refl _ _⟩
  | false =>
    go_wp2_with fail
    have HB_0 : Hid (BelW w w) := Below.refl _ _
    have C0_0 := hide hc
    have C1_0 := hide hm
    refine (DrawEnterTeam_any _ _ C0_0.out).mono ?_
    rintro e v1 ⟨u1, n1, T1, X, vc, rfl, hn, hcs, hxs, hxn, hxc, hl, hb⟩
    have HB_2 := hide (HB_0.out.bel hb)
    clear HB_0
    have C0_2 := hide (C0_0.out.bel hb)
    clear C0_0
    have C1_2 := hide (C1_0.out.bel hb)
    clear C1_0
    obtain ⟨A1, k1, rfl, _⟩ := hl.open_
    have L1_s : Hid (TlW v1 (.slice A1 n1 k1) n1 T1) := TlW.of hl (Nat.le_refl _)
    have HF1 : Hid (tfits T1 n1) := small_fits hn hcs
    have HN1 := hide hn
    have HC1 := hide hcs
    have HFX : Hid X.fits := ⟨by unfold maxLen; omega, by omega⟩
    obtain ⟨AX, kx, rfl, _, _⟩ := id hxc.open_
    have XC_s : Hid (SlW v1 2 (.slice AX X.n kx) X.n (iiC X.m X.b)) := SlW.of hxc (Nat.le_refl _)
    clear hxs hxn hxc
    clear hl hn hcs hb
    clear C0_2
    go_wp2_with fail
    obtain ⟨v3, hW⟩ : ∃ W, W = v1.alloc (.cells #[.string X.s, .int .i64 X.v, .int .i64 X.y, .slice AX X.n kx] 27) := ⟨_, rfl⟩
    obtain ⟨ab, hab⟩ : ∃ z, z = v1.heap.size := ⟨_, rfl⟩
    have HN : Hid (BxT v3 ab X.s X.v X.y (.slice AX X.n kx)) := by show BxT _ _ _ _ _ _; rw [hW, hab]; exact BxT.new _ _ _ _ _ _
    have hb : Below v1.heap.size v1 v3 := by rw [hW]; exact (Below.refl _ _).alloc (Nat.le_refl _) _
    rw [← hW, ← hab]
    clear hW hab
    have HB_4 := hide (HB_2.out.bel hb)
    clear HB_2
    have C1_4 := hide (C1_2.out.bel hb)
    clear C1_2
    have L1_4 := hide (L1_s.out.bel hb)
    clear L1_s
    have XC_4 := hide (XC_s.out.bel hb)
    clear XC_s
    clear hb
    have Ha_4 := HN
    clear HN
    obtain ⟨ok, hok⟩ : ∃ z, etOk T1 n1 X = z := ⟨_, rfl⟩
    have HOK := hide hok
    clear hok
    obtain ⟨EN, hEN⟩ : ∃ z, etN T1 n1 X = z := ⟨_, rfl⟩
    have HEN := hide hEN
    clear hEN
    obtain ⟨ET, hET⟩ : ∃ z, etT T1 n1 X = z := ⟨_, rfl⟩
    have HET := hide hET
    clear hET
    have HFE : Hid (tfits ET EN) := by show tfits _ _; rw [← HEN.out, ← HET.out]; exact et_fits HF1.out HFX.out
    refine (EnterTeam_impl T1 n1 X 0 _ 0 _ _ _ _ L1_4.out (Nat.le_refl _) HF1.out XC_4.out (Nat.le_refl _) HFX.out).mono ?_
    rintro e v5 ⟨st, rfl, ho, hb⟩
    rw [HOK.out]
    rw [HEN.out, HET.out] at ho
    have HB_6 := hide (HB_4.out.bel hb)
    clear HB_4
    have C1_6 := hide (C1_4.out.bel hb)
    clear C1_4
    have L1_6 := hide (L1_4.out.bel hb)
    clear L1_4
    have XC_6 := hide (XC_4.out.bel hb)
    clear XC_4
    have a_6 := hide (Ha_4.out.bel hb)
    clear Ha_4
    obtain ⟨E1, ke1, rfl, _⟩ := ho.sl.open_
    have E1_s : Hid (TlW v5 (.slice E1 EN ke1) EN ET) := TlW.of ho.sl (Nat.le_refl _)
    clear ho hb
    obtain ⟨a0, a1, a2, a3, af, al⟩ := a_6.out
    go_wp2_with fail
    clear a0 a1 a2 a3 af al
    refine (EnterTeam_spec T1 n1 X 0 _ 0 _ _ _ _ L1_6.out (Nat.le_refl _) HF1.out XC_6.out (Nat.le_refl _) HFX.out).mono ?_
    rintro e v7 ⟨st, rfl, ho, hb⟩
    rw [HOK.out]
    rw [HEN.out, HET.out] at ho
    have HB_8 := hide (HB_6.out.bel hb)
    clear HB_6
    have C1_8 := hide (C1_6.out.bel hb)
    clear C1_6
    have L1_8 := hide (L1_6.out.bel hb)
    clear L1_6
    have XC_8 := hide (XC_6.out.bel hb)
    clear XC_6
    have a_8 := hide (a_6.out.bel hb)
    clear a_6
    have E1_8 := hide (E1_s.out.bel hb)
    clear E1_s
    obtain ⟨E2, ke2, rfl, _⟩ := ho.sl.open_
    have E2_s : Hid (TlW v7 (.slice E2 EN ke2) EN ET) := TlW.of ho.sl (Nat.le_refl _)
    clear ho hb
    obtain ⟨a0, a1, a2, a3, af, al⟩ := a_8.out
    go_wp2_with fail
    clear a0 a1 a2 a3 af al
    refine (pSameBoard_same ET EN 0 _ 0 _ _ _ _ E1_8.out E2_s.out (Nat.le_refl _) (Nat.le_refl _) HFE.out).mono ?_
    rintro e v9 ⟨rfl, hb⟩
    have HB_10 := hide (HB_8.out.bel hb)
    clear HB_8
    have C1_10 := hide (C1_8.out.bel hb)
    clear C1_8
    have L1_10 := hide (L1_8.out.bel hb)
    clear L1_8
    have XC_10 := hide (XC_8.out.bel hb)
    clear XC_8
    have a_10 := hide (a_8.out.bel hb)
    clear a_8
    have E1_10 := hide (E1_8.out.bel hb)
    clear E1_8
    have E2_10 := hide (E2_s.out.bel hb)
    clear E2_s
    clear hb
    go_upto_if 90 with fail
    go_cut [] from 7 to 118 (fun wx => Hid (BelW w wx) ∧ Hid (Code wx (.slice B mm capB)) ∧ Hid (TlW wx (.slice A1 n1 k1) n1 T1) ∧ Hid (SlW wx 2 (.slice AX X.n kx) X.n (iiC X.m X.b)) ∧ Hid (BxT wx ab X.s X.v X.y (.slice AX X.n kx)) ∧ Hid (TlW wx (.slice E1 EN ke1) EN ET) ∧ Hid (TlW wx (.slice E2 EN ke2) EN ET))
    case first => as_aux_lemma =>
      cases ok with
      | false =>
        go_wp2_with fail
        go_meet
        case rel => exact ⟨HB_10, C1_10, L1_10, XC_10, a_10, E1_10, E2_10⟩
      | true =>
        obtain ⟨l1, l2, l3⟩ := et_leave HOK.out
        have hEN : EN = n1 + 1 := by rw [← HEN.out, etN, if_pos HOK.out]
        have hbd := et_board HOK.out
        rw [← hEN, HET.out] at l1 l2 hbd
        have l3 : ∀ i, lvT ET EN X.s i = T1 i := fun i => by have := l3 i; rw [← hEN, HET.out] at this; exact this
        have HBD := hide hbd
        have HL1 := hide l1
        have HL2 := hide l2
        have HL3 := hide l3
        have hn1 := HN1.out
        have z1 : IntKind.i64.wrap ((n1 : Int) + 1) = (EN : Int) := by rw [IntWalk.i64_in _ (by omega)]; omega
        clear l1 l2 l3 hbd hEN hn1
        obtain ⟨a0, a1, a2, a3, af, al⟩ := a_10.out
        go_wp2_with fail
        clear a0 a1 a2 a3 af al
        refine (LeaveTeam_impl ET EN X.s 0 _ _ _ E1_10.out (Nat.le_refl _) HFE.out HFX.out.1).mono ?_
        rintro e v11 ⟨st, rfl, ho, hb⟩
        rw [HL1.out]
        rw [HL2.out] at ho
        have ho := ho.congr (fun i _ => HL3.out i)
        have HB_12 := hide (HB_10.out.bel hb)
        clear HB_10
        have C1_12 := hide (C1_10.out.bel hb)
        clear C1_10
        have L1_12 := hide (L1_10.out.bel hb)
        clear L1_10
        have XC_12 := hide (XC_10.out.bel hb)
        clear XC_10
        have a_12 := hide (a_10.out.bel hb)
        clear a_10
        have E1_12 := hide (E1_10.out.bel hb)
        clear E1_10
        have E2_12 := hide (E2_10.out.bel hb)
        clear E2_10
        obtain ⟨BK, kb, rfl, _⟩ := ho.sl.open_
        have BK_s : Hid (TlW v11 (.slice BK n1 kb) n1 T1) := TlW.of ho.sl (Nat.le_refl _)
        clear ho hb
        obtain ⟨a0, a1, a2, a3, af, al⟩ := a_12.out
        go_wp2_with fail
        clear a0 a1 a2 a3 af al
        refine (pSameBoard_same T1 n1 0 _ 0 _ _ _ _ BK_s.out L1_12.out (Nat.le_refl _) (Nat.le_refl _) HF1.out).mono ?_
        rintro e v13 ⟨rfl, hb⟩
        have HB_14 := hide (HB_12.out.bel hb)
        clear HB_12
        have C1_14 := hide (C1_12.out.bel hb)
        clear C1_12
        have L1_14 := hide (L1_12.out.bel hb)
        clear L1_12
        have XC_14 := hide (XC_12.out.bel hb)
        clear XC_12
        have a_14 := hide (a_12.out.bel hb)
        clear a_12
        have E1_14 := hide (E1_12.out.bel hb)
        clear E1_12
        have E2_14 := hide (E2_12.out.bel hb)
        clear E2_12
        have BK_14 := hide (BK_s.out.bel hb)
        clear BK_s
        clear hb
        obtain ⟨a0, a1, a2, a3, af, al⟩ := a_14.out
        go_wp2_with fail
        clear a0 a1 a2 a3 af al
        refine (IsBoard_impl ET EN 0 _ _ _ E1_14.out (Nat.le_refl _) HFE.out).mono ?_
        rintro e v15 ⟨rfl, hb⟩
        rw [HBD.out]
        have HB_16 := hide (HB_14.out.bel hb)
        clear HB_14
        have C1_16 := hide (C1_14.out.bel hb)
        clear C1_14
        have L1_16 := hide (L1_14.out.bel hb)
        clear L1_14
        have XC_16 := hide (XC_14.out.bel hb)
        clear XC_14
        have a_16 := hide (a_14.out.bel hb)
        clear a_14
        have E1_16 := hide (E1_14.out.bel hb)
        clear E1_14
        have E2_16 := hide (E2_14.out.bel hb)
        clear E2_14
        have BK_16 := hide (BK_14.out.bel hb)
        clear BK_14
        clear hb
        go_wp2_with fail
        go_meet
        case rel => exact ⟨HB_16, C1_16, L1_16, XC_16, a_16, E1_16, E2_16⟩
    case rest => as_aux_lemma =>
      obtain ⟨HB_11, C1_11, L1_11, XC_11, a_11, E1_11, E2_11⟩ := hcut
      clear L1_11
      clear XC_11
      clear a_11
      clear E1_11
      clear E2_11
      go_wp2_with fail
      refine (DrawRecalledTeams_any _ _ C1_11.out).mono ?_
      rintro e v12 ⟨u2, n2, T2, mi, rfl, hn, hcs, hl, hb⟩
      have HB_13 := hide (HB_11.out.bel hb)
      clear HB_11
      have C1_13 := hide (C1_11.out.bel hb)
      clear C1_11
      obtain ⟨A2, k2, rfl, _⟩ := hl.open_
      have L2_s : Hid (TlW v12 (.slice A2 n2 k2) n2 T2) := TlW.of hl (Nat.le_refl _)
      have HF2 : Hid (tfits T2 n2) := small_fits hn hcs
      have HN2 := hide hn
      have HC2 := hide hcs
      clear hl hn hcs hb
      obtain ⟨one, hone⟩ : ∃ z, rcOk T2 n2 mi = z := ⟨_, rfl⟩
      have HONE := hide hone
      clear hone
      obtain ⟨NR, hNR⟩ : ∃ z, (flt (rcQ T2 n2 mi) n2).length = z := ⟨_, rfl⟩
      have HNR := hide hNR
      clear hNR
      obtain ⟨RS, hRS⟩ : ∃ z, fltS (fun i => (T2 i).s) (rcQ T2 n2 mi) n2 = z := ⟨_, rfl⟩
      have HRS := hide hRS
      clear hRS
      obtain ⟨tx, htx⟩ : ∃ z, btR T2 n2 mi = z := ⟨_, rfl⟩
      have HTX := hide htx
      clear htx
      have HNRL : Hid (NR ≤ 1048576) := by show NR ≤ _; rw [← HNR.out]; have h1 := flt_len (rcQ T2 n2 mi) n2; have h2 := HN2.out; omega
      have HBT : Hid (btOk T2 n2 mi = one) := HONE.out
      go_wp2_with fail
      refine (RecalledTeams_impl T2 n2 mi 0 _ _ _ L2_s.out (Nat.le_refl _) HF2.out).mono ?_
      rintro e v14 ⟨st, rfl, ho, hb⟩
      rw [HONE.out]
      rw [HNR.out, HRS.out] at ho
      have HB_15 := hide (HB_13.out.bel hb)
      clear HB_13
      have C1_15 := hide (C1_13.out.bel hb)
      clear C1_13
      have L2_15 := hide (L2_s.out.bel hb)
      clear L2_s
      obtain ⟨R1, kr1, rfl, _, _⟩ := id ho.sl.open_
      have R1_s : Hid (SlW v14 1 (.slice R1 NR kr1) NR (sC RS)) := SlW.of ho.sl (Nat.le_refl _)
      clear ho hb
      go_wp2_with fail
      refine (RecalledTeams_spec T2 n2 mi 0 _ _ _ L2_15.out (Nat.le_refl _) HF2.out).mono ?_
      rintro e v16 ⟨st, rfl, ho, hb⟩
      rw [HONE.out]
      rw [HNR.out, HRS.out] at ho
      have HB_17 := hide (HB_15.out.bel hb)
      clear HB_15
      have C1_17 := hide (C1_15.out.bel hb)
      clear C1_15
      have L2_17 := hide (L2_15.out.bel hb)
      clear L2_15
      have R1_17 := hide (R1_s.out.bel hb)
      clear R1_s
      obtain ⟨R2, kr2, rfl, _, _⟩ := id ho.sl.open_
      have R2_s : Hid (SlW v16 1 (.slice R2 NR kr2) NR (sC RS)) := SlW.of ho.sl (Nat.le_refl _)
      clear ho hb
      go_wp2_with fail
      refine (BoardText_impl T2 n2 mi 0 _ _ _ L2_17.out (Nat.le_refl _) HF2.out).mono ?_
      rintro e v18 ⟨rfl, hb⟩
      rw [HTX.out, HBT.out]
      have HB_19 := hide (HB_17.out.bel hb)
      clear HB_17
      have C1_19 := hide (C1_17.out.bel hb)
      clear C1_17
      have L2_19 := hide (L2_17.out.bel hb)
      clear L2_17
      have R1_19 := hide (R1_17.out.bel hb)
      clear R1_17
      have R2_19 := hide (R2_s.out.bel hb)
      clear R2_s
      clear hb
      go_wp2_with fail
      refine (BoardText_spec T2 n2 mi 0 _ _ _ L2_19.out (Nat.le_refl _) HF2.out).mono ?_
      rintro e v20 ⟨rfl, hb⟩
      rw [HTX.out, HBT.out]
      have HB_21 := hide (HB_19.out.bel hb)
      clear HB_19
      have C1_21 := hide (C1_19.out.bel hb)
      clear C1_19
      have L2_21 := hide (L2_19.out.bel hb)
      clear L2_19
      have R1_21 := hide (R1_19.out.bel hb)
      clear R1_19
      have R2_21 := hide (R2_19.out.bel hb)
      clear R2_19
      clear hb
      go_wp2_with fail
      refine (pSameTexts_same RS NR 0 _ 0 _ _ _ _ R1_21.out R2_21.out (Nat.le_refl _) (Nat.le_refl _) (by have := HNRL.out; omega)).mono ?_
      rintro e v22 ⟨rfl, hb⟩
      have HB_23 := hide (HB_21.out.bel hb)
      clear HB_21
      have C1_23 := hide (C1_21.out.bel hb)
      clear C1_21
      have L2_23 := hide (L2_21.out.bel hb)
      clear L2_21
      have R1_23 := hide (R1_21.out.bel hb)
      clear R1_21
      have R2_23 := hide (R2_21.out.bel hb)
      clear R2_21
      clear hb
      go_upto_if 172 with fail
      go_cut [] from 23 to 211 (fun wx => Hid (BelW w wx) ∧ Hid (Code wx (.slice B mm capB)) ∧ Hid (TlW wx (.slice A2 n2 k2) n2 T2) ∧ Hid (SlW wx 1 (.slice R1 NR kr1) NR (sC RS)) ∧ Hid (SlW wx 1 (.slice R2 NR kr2) NR (sC RS)))
      case first => as_aux_lemma =>
        cases one with
        | false =>
          go_wp2_with fail
          go_meet
          case rel => exact ⟨HB_23, C1_23, L2_23, R1_23, R2_23⟩
        | true =>
          have HHS : Hid (∀ i, i < n2 → staOk (T2 i) mi = true ∧ hasT RS (T2 i).s NR = ((staS (T2 i) mi).toList == [116, 117, 114, 110])) := fun i hi => by
            obtain ⟨h1, h2, h3⟩ := rc_has HONE.out hi
            rw [HNR.out, HRS.out] at h3
            rw [h2]
            exact ⟨h1, h3⟩
          go_wp2_with fail
          go_loopg [175] (n2 + 1) (fun gn iv wr1 => ∃ k1 : Nat, k1 ≤ n2 ∧ n2 - k1 < gn ∧ iv = .int .i64 k1 ∧ Hid (BelW v22 wr1))
          case atStart => exact ⟨0, by omega, by omega, rfl, Below.refl _ _⟩
          case round =>
            obtain ⟨k1, hk1, hgn1, rfl, HL1⟩ := hrel
            have hbl : Below v22.heap.size v22 wr := HL1.out
            have HB_L1 := hide (HB_23.out.bel hbl)
            have C1_L1 := hide (C1_23.out.bel hbl)
            have L2_L1 := hide (L2_23.out.bel hbl)
            have R1_L1 := hide (R1_23.out.bel hbl)
            have R2_L1 := hide (R2_23.out.bel hbl)
            clear hbl
            clear HB_23 C1_23 L2_23 R1_23 R2_23
            have hbnd1 := HN2.out
            by_cases hk1n : k1 < n2
            · skip
              obtain ⟨pb, po, hp⟩ := TlW.form L2_L1.out (by omega)
              subst hp
              obtain ⟨Ak, ak, p0, p1, p2, p3, pl, ps⟩ := TlW.at L2_L1.out hk1n
              obtain ⟨h1, h2⟩ := HHS.out k1 hk1n
              have hfx := HF2.out.2 k1 hk1n
              obtain ⟨Y, hY⟩ : ∃ z, T2 k1 = z := ⟨_, rfl⟩
              rw [hY] at p0 p1 p2 p3 ps h1 h2 hfx
              obtain ⟨sv, hsv⟩ : ∃ z, staS Y mi = z := ⟨_, rfl⟩
              rw [hsv] at h2
              obtain ⟨tb, htb⟩ : ∃ z, (sv.toList == [116, 117, 114, 110]) = z := ⟨_, rfl⟩
              rw [htb] at h2
              have H1 := hide h1
              have H2 := hide h2
              have H3 := hide hsv
              have HTB := hide htb
              have HFY := hide hfx
              have PX := hide ps
              clear h1 h2 hsv hfx ps hY htb
              go_wp2_with fail
              obtain ⟨v24, hW⟩ : ∃ W, W = wr.alloc (.cells #[.string Y.s, .int .i64 Y.v, .int .i64 Y.y, .slice Ak Y.n ak] 27) := ⟨_, rfl⟩
              obtain ⟨xb, hxb⟩ : ∃ z, z = wr.heap.size := ⟨_, rfl⟩
              have HN : Hid (BxT v24 xb Y.s Y.v Y.y (.slice Ak Y.n ak)) := by show BxT _ _ _ _ _ _; rw [hW, hxb]; exact BxT.new _ _ _ _ _ _
              have hb : Below wr.heap.size wr v24 := by rw [hW]; exact (Below.refl _ _).alloc (Nat.le_refl _) _
              rw [← hW, ← hxb]
              clear hW hxb
              have HB_25 := hide (HB_L1.out.bel hb)
              clear HB_L1
              have C1_25 := hide (C1_L1.out.bel hb)
              clear C1_L1
              have L2_25 := hide (L2_L1.out.bel hb)
              clear L2_L1
              have R1_25 := hide (R1_L1.out.bel hb)
              clear R1_L1
              have R2_25 := hide (R2_L1.out.bel hb)
              clear R2_L1
              have HL1_25 := hide (HL1.out.bel hb)
              clear HL1
              have PX_25 := hide (PX.out.bel hb)
              clear PX
              clear hb
              have Hx_25 := HN
              clear HN
              clear p0 p1 p2 p3 pl
              refine (TeamState_impl Y mi 0 _ _ _ PX_25.out (Nat.le_refl _) HFY.out).mono ?_
              rintro e v26 ⟨rfl, hb⟩
              rw [H3.out, H1.out]
              have HB_27 := hide (HB_25.out.bel hb)
              clear HB_25
              have C1_27 := hide (C1_25.out.bel hb)
              clear C1_25
              have L2_27 := hide (L2_25.out.bel hb)
              clear L2_25
              have R1_27 := hide (R1_25.out.bel hb)
              clear R1_25
              have R2_27 := hide (R2_25.out.bel hb)
              clear R2_25
              have HL1_27 := hide (HL1_25.out.bel hb)
              clear HL1_25
              have PX_27 := hide (PX_25.out.bel hb)
              clear PX_25
              have x_27 := hide (Hx_25.out.bel hb)
              clear Hx_25
              clear hb
              obtain ⟨x0, x1, x2, x3, xf, xl⟩ := x_27.out
              go_wp2_with fail
              clear x0 x1 x2 x3 xf xl
              refine (TeamState_spec Y mi 0 _ _ _ PX_27.out (Nat.le_refl _) HFY.out).mono ?_
              rintro e v28 ⟨rfl, hb⟩
              rw [H3.out, H1.out]
              have HB_29 := hide (HB_27.out.bel hb)
              clear HB_27
              have C1_29 := hide (C1_27.out.bel hb)
              clear C1_27
              have L2_29 := hide (L2_27.out.bel hb)
              clear L2_27
              have R1_29 := hide (R1_27.out.bel hb)
              clear R1_27
              have R2_29 := hide (R2_27.out.bel hb)
              clear R2_27
              have HL1_29 := hide (HL1_27.out.bel hb)
              clear HL1_27
              have PX_29 := hide (PX_27.out.bel hb)
              clear PX_27
              have x_29 := hide (x_27.out.bel hb)
              clear x_27
              clear hb
              obtain ⟨x0, x1, x2, x3, xf, xl⟩ := x_29.out
              go_wp2_with fail
              clear x0 x1 x2 x3 xf xl
              refine (pHas_any RS Y.s NR 0 _ _ _ R2_29.out (Nat.le_refl _) HNRL.out).mono ?_
              rintro e v30 ⟨rfl, hb⟩
              rw [H2.out]
              have HB_31 := hide (HB_29.out.bel hb)
              clear HB_29
              have C1_31 := hide (C1_29.out.bel hb)
              clear C1_29
              have L2_31 := hide (L2_29.out.bel hb)
              clear L2_29
              have R1_31 := hide (R1_29.out.bel hb)
              clear R1_29
              have R2_31 := hide (R2_29.out.bel hb)
              clear R2_29
              have HL1_31 := hide (HL1_29.out.bel hb)
              clear HL1_29
              have PX_31 := hide (PX_29.out.bel hb)
              clear PX_29
              have x_31 := hide (x_29.out.bel hb)
              clear x_29
              clear hb
              have htb := HTB.out
              obtain ⟨x0, x1, x2, x3, xf, xl⟩ := x_31.out
              go_wp2_with fail
              clear x0 x1 x2 x3 xf xl
              go_roundg (n2 - k1)
              case measure => omega
              case rel => exact ⟨k1 + 1, by omega, by omega, by go_num, HL1_31⟩
            · skip
              have ek : n2 = k1 := by omega
              clear hk1n hk1 hgn1
              subst ek
              go_wp2_with fail
              go_meet
              case rel => exact ⟨HB_L1, C1_L1, L2_L1, R1_L1, R2_L1⟩
      case rest => as_aux_lemma =>
        obtain ⟨HB_24, C1_24, L2_24, R1_24, R2_24⟩ := hcut
        clear L2_24
        clear R1_24
        clear R2_24
        go_wp2_with fail
        refine (DrawFirstTurn_any _ _ C1_24.out).mono ?_
        rintro e v25 ⟨u3, n3, T3, rfl, hn, hcs, hl, hb⟩
        have HB_26 := hide (HB_24.out.bel hb)
        clear HB_24
        have C1_26 := hide (C1_24.out.bel hb)
        clear C1_24
        obtain ⟨A3, k3, rfl, _⟩ := hl.open_
        have L3_s : Hid (TlW v25 (.slice A3 n3 k3) n3 T3) := TlW.of hl (Nat.le_refl _)
        have HF3 : Hid (tfits T3 n3) := small_fits hn hcs
        have HN3 := hide hn
        have HC3 := hide hcs
        clear hl hn hcs hb
        obtain ⟨fs, hfs⟩ : ∃ z, frS T3 n3 = z := ⟨_, rfl⟩
        have HFS := hide hfs
        clear hfs
        obtain ⟨fn, hfn⟩ : ∃ z, frN T3 n3 = z := ⟨_, rfl⟩
        have HFN := hide hfn
        clear hfn
        obtain ⟨fr, hfr⟩ : ∃ z, frB T3 n3 = z := ⟨_, rfl⟩
        have HFR := hide hfr
        clear hfr
        obtain ⟨bd, hbd⟩ : ∃ z, bdB T3 n3 = z := ⟨_, rfl⟩
        have HBD3 := hide hbd
        clear hbd
        go_wp2_with fail
        refine (FirstTurn_impl T3 n3  0 _ _ _ L3_s.out (Nat.le_refl _) HF3.out).mono ?_
        rintro e v27 ⟨rfl, hb⟩
        rw [HFS.out, HFN.out, HFR.out]
        have HB_28 := hide (HB_26.out.bel hb)
        clear HB_26
        have C1_28 := hide (C1_26.out.bel hb)
        clear C1_26
        have L3_28 := hide (L3_s.out.bel hb)
        clear L3_s
        clear hb
        go_wp2_with fail
        refine (FirstTurn_spec T3 n3  0 _ _ _ L3_28.out (Nat.le_refl _) HF3.out).mono ?_
        rintro e v29 ⟨rfl, hb⟩
        rw [HFS.out, HFN.out, HFR.out]
        have HB_30 := hide (HB_28.out.bel hb)
        clear HB_28
        have C1_30 := hide (C1_28.out.bel hb)
        clear C1_28
        have L3_30 := hide (L3_28.out.bel hb)
        clear L3_28
        clear hb
        go_upto_region 31 with fail
        go_cut [249] from 226 to 249 (fun s wx => s = .bool false ∧ Hid (BelW w wx) ∧ Hid (Code wx (.slice B mm capB)) ∧ Hid (TlW wx (.slice A3 n3 k3) n3 T3))
        case first => as_aux_lemma =>
          go_wp2_with fail
          refine (IsBoard_impl T3 n3  0 _ _ _ L3_30.out (Nat.le_refl _) HF3.out).mono ?_
          rintro e v31 ⟨rfl, hb⟩
          rw [HBD3.out]
          have HB_32 := hide (HB_30.out.bel hb)
          clear HB_30
          have C1_32 := hide (C1_30.out.bel hb)
          clear C1_30
          have L3_32 := hide (L3_30.out.bel hb)
          clear L3_30
          clear hb
          have hfr := HFR.out
          rw [frB, HBD3.out] at hfr
          cases bd with
          | false =>
            obtain rfl : fr = false := hfr.symm
            go_wp2_with fail
            go_meet
            case rel => exact ⟨rfl, HB_32, C1_32, L3_32⟩
          | true =>
            by_cases h0 : 0 < n3
            · skip
              obtain rfl : fr = true := by rw [← hfr, decide_eq_true h0]; rfl
              have d0 : decide ((n3 : Int) > 0) = true := decide_eq_true (by omega)
              have d1 : decide ((0 : Int) < (n3 : Int)) = true := decide_eq_true (by omega)
              clear hfr
              go_wp2_with fail
              go_meet
              case rel => exact ⟨rfl, HB_32, C1_32, L3_32⟩
            · skip
              obtain rfl : fr = false := by rw [← hfr, decide_eq_false h0]; rfl
              have d0 : decide ((n3 : Int) > 0) = false := decide_eq_false (by omega)
              have d1 : decide ((0 : Int) < (n3 : Int)) = false := decide_eq_false (by omega)
              clear hfr
              go_wp2_with fail
              go_meet
              case rel => exact ⟨rfl, HB_32, C1_32, L3_32⟩
        case rest => as_aux_lemma =>
          obtain ⟨rfl, HB_31, C1_31, L3_31⟩ := hcut
          go_upto_if 250 with fail
          go_cut [] from 36 to 313 (fun wx => Hid (BelW w wx) ∧ Hid (Code wx (.slice B mm capB)) ∧ Hid (TlW wx (.slice A3 n3 k3) n3 T3))
          case first => as_aux_lemma =>
            cases fr with
            | false =>
              go_wp2_with fail
              go_meet
              case rel => exact ⟨HB_31, C1_31, L3_31⟩
            | true =>
              have HLP : Hid (∀ k, k < n3 → ((T3 k).s = fs → turnOk (T3 k) = true → turnNN (T3 k) = fn) ∧ (noTurn T3 n3 = false → turnOk (T3 k) = true → fn ≤ turnNN (T3 k)) ∧ (noTurn T3 n3 = true → (T3 k).s = fs → turnOk (T3 k) = false)) := fun k hk => by
                have h := fr_law HFR.out hk
                rw [HFS.out, HFN.out] at h
                exact h
              go_wp2_with fail
              go_loopg [36, 253] (n3 + 1) (fun gn pv iv wr1 => ∃ k1 : Nat, k1 ≤ n3 ∧ n3 - k1 < gn ∧ (∃ z : Bool, pv = .bool z ∧ Hid (noTurn T3 k1 = z)) ∧ iv = .int .i64 k1 ∧ Hid (BelW wc wr1))
              case atStart => exact ⟨0, by omega, by omega, ⟨_, rfl, noTurn_zero T3⟩, rfl, Below.refl _ _⟩
              case round =>
                obtain ⟨k1, hk1, hgn1, ⟨zb, rfl, HZ⟩, rfl, HL1⟩ := hrel
                have hbl : Below wc.heap.size wc wr := HL1.out
                have HB_L1 := hide (HB_31.out.bel hbl)
                have C1_L1 := hide (C1_31.out.bel hbl)
                have L3_L1 := hide (L3_31.out.bel hbl)
                clear hbl
                clear HB_31 C1_31 L3_31
                have hbnd1 := HN3.out
                by_cases hk1n : k1 < n3
                · skip
                  obtain ⟨pb, po, hp⟩ := TlW.form L3_L1.out (by omega)
                  subst hp
                  obtain ⟨Ak, ak, p0, p1, p2, p3, pl, ps⟩ := TlW.at L3_L1.out hk1n
                  obtain ⟨g1, g2, g3⟩ := HLP.out k1 hk1n
                  have hfx := HF3.out.2 k1 hk1n
                  have hns := noTurn_succ T3 k1
                  rw [HZ.out] at hns
                  obtain ⟨Y, hY⟩ : ∃ z, T3 k1 = z := ⟨_, rfl⟩
                  rw [hY] at p0 p1 p2 p3 ps hfx g1 g2 g3 hns
                  obtain ⟨tn, htn⟩ : ∃ z, turnNN Y = z := ⟨_, rfl⟩
                  obtain ⟨sv, hsv⟩ : ∃ z, turnOk Y = z := ⟨_, rfl⟩
                  rw [htn] at g1 g2
                  rw [hsv] at g1 g2 g3 hns
                  have H1 := hide htn
                  have H2 := hide hsv
                  have G1 := hide g1
                  have G2 := hide g2
                  have G3 := hide g3
                  have HFY := hide hfx
                  have PX := hide ps
                  clear htn hsv hfx ps hY g1 g2 g3
                  have HNS := hide hns
                  clear hns
                  go_wp2_with fail
                  obtain ⟨v32, hW⟩ : ∃ W, W = wr.alloc (.cells #[.string Y.s, .int .i64 Y.v, .int .i64 Y.y, .slice Ak Y.n ak] 27) := ⟨_, rfl⟩
                  obtain ⟨xb, hxb⟩ : ∃ z, z = wr.heap.size := ⟨_, rfl⟩
                  have HN : Hid (BxT v32 xb Y.s Y.v Y.y (.slice Ak Y.n ak)) := by show BxT _ _ _ _ _ _; rw [hW, hxb]; exact BxT.new _ _ _ _ _ _
                  have hb : Below wr.heap.size wr v32 := by rw [hW]; exact (Below.refl _ _).alloc (Nat.le_refl _) _
                  rw [← hW, ← hxb]
                  clear hW hxb
                  have HB_33 := hide (HB_L1.out.bel hb)
                  clear HB_L1
                  have C1_33 := hide (C1_L1.out.bel hb)
                  clear C1_L1
                  have L3_33 := hide (L3_L1.out.bel hb)
                  clear L3_L1
                  have HL1_33 := hide (HL1.out.bel hb)
                  clear HL1
                  have PX_33 := hide (PX.out.bel hb)
                  clear PX
                  clear hb
                  have Hx_33 := HN
                  clear HN
                  clear p0 p1 p2 p3 pl
                  refine (TurnMinute_spec Y 0 _ _ _ PX_33.out (Nat.le_refl _) HFY.out).mono ?_
                  rintro e v34 ⟨rfl, hb⟩
                  rw [H1.out, H2.out]
                  have HB_35 := hide (HB_33.out.bel hb)
                  clear HB_33
                  have C1_35 := hide (C1_33.out.bel hb)
                  clear C1_33
                  have L3_35 := hide (L3_33.out.bel hb)
                  clear L3_33
                  have HL1_35 := hide (HL1_33.out.bel hb)
                  clear HL1_33
                  have PX_35 := hide (PX_33.out.bel hb)
                  clear PX_33
                  have x_35 := hide (Hx_33.out.bel hb)
                  clear Hx_33
                  clear hb
                  have hq : (Y.s.toList == fs.toList) = decide (Y.s = fs) := str_beq _ _
                  cases zb with
                  | false =>
                    cases sv with
                    | false =>
                      have HNZ : Hid (noTurn T3 (k1 + 1) = true) := by show _ = _; rw [HNS.out]; rfl
                      cases hd : decide (Y.s = fs) with
                      | false =>
                        rw [hd] at hq
                        clear hd
                        obtain ⟨x0, x1, x2, x3, xf, xl⟩ := x_35.out
                        go_wp2_with fail
                        clear x0 x1 x2 x3 xf xl
                        go_roundg (n3 - k1)
                        case measure => omega
                        case rel => exact ⟨k1 + 1, by omega, by omega, ⟨_, rfl, HNZ⟩, by go_num, HL1_35⟩
                      | true =>
                        rw [hd] at hq
                        clear hd
                        obtain ⟨x0, x1, x2, x3, xf, xl⟩ := x_35.out
                        go_wp2_with fail
                        clear x0 x1 x2 x3 xf xl
                        go_roundg (n3 - k1)
                        case measure => omega
                        case rel => exact ⟨k1 + 1, by omega, by omega, ⟨_, rfl, HNZ⟩, by go_num, HL1_35⟩
                    | true =>
                      have HNZ : Hid (noTurn T3 (k1 + 1) = false) := by show _ = _; rw [HNS.out]; rfl
                      cases hd : decide (Y.s = fs) with
                      | false =>
                        rw [hd] at hq
                        clear hd
                        obtain ⟨x0, x1, x2, x3, xf, xl⟩ := x_35.out
                        go_wp2_with fail
                        clear x0 x1 x2 x3 xf xl
                        go_roundg (n3 - k1)
                        case measure => omega
                        case rel => exact ⟨k1 + 1, by omega, by omega, ⟨_, rfl, HNZ⟩, by go_num, HL1_35⟩
                      | true =>
                        rw [hd] at hq
                        have htn : tn = fn := G1.out (of_decide_eq_true hd) rfl
                        subst htn
                        clear hd
                        obtain ⟨x0, x1, x2, x3, xf, xl⟩ := x_35.out
                        go_wp2_with fail
                        clear x0 x1 x2 x3 xf xl
                        go_roundg (n3 - k1)
                        case measure => omega
                        case rel => exact ⟨k1 + 1, by omega, by omega, ⟨_, rfl, HNZ⟩, by go_num, HL1_35⟩
                  | true =>
                    cases sv with
                    | false =>
                      have HNZ : Hid (noTurn T3 (k1 + 1) = true) := by show _ = _; rw [HNS.out]; rfl
                      cases hd : decide (Y.s = fs) with
                      | false =>
                        rw [hd] at hq
                        clear hd
                        obtain ⟨x0, x1, x2, x3, xf, xl⟩ := x_35.out
                        go_wp2_with fail
                        clear x0 x1 x2 x3 xf xl
                        go_roundg (n3 - k1)
                        case measure => omega
                        case rel => exact ⟨k1 + 1, by omega, by omega, ⟨_, rfl, HNZ⟩, by go_num, HL1_35⟩
                      | true =>
                        rw [hd] at hq
                        clear hd
                        obtain ⟨x0, x1, x2, x3, xf, xl⟩ := x_35.out
                        go_wp2_with fail
                        clear x0 x1 x2 x3 xf xl
                        go_roundg (n3 - k1)
                        case measure => omega
                        case rel => exact ⟨k1 + 1, by omega, by omega, ⟨_, rfl, HNZ⟩, by go_num, HL1_35⟩
                    | true =>
                      have HNZ : Hid (noTurn T3 (k1 + 1) = true) := by show _ = _; rw [HNS.out]; rfl
                      cases hd : decide (Y.s = fs) with
                      | false =>
                        rw [hd] at hq
                        clear hd
                        obtain ⟨x0, x1, x2, x3, xf, xl⟩ := x_35.out
                        go_wp2_with fail
                        clear x0 x1 x2 x3 xf xl
                        go_roundg (n3 - k1)
                        case measure => omega
                        case rel => exact ⟨k1 + 1, by omega, by omega, ⟨_, rfl, HNZ⟩, by go_num, HL1_35⟩
                      | true =>
                        rw [hd] at hq
                        have htn : tn = fn := G1.out (of_decide_eq_true hd) rfl
                        subst htn
                        clear hd
                        obtain ⟨x0, x1, x2, x3, xf, xl⟩ := x_35.out
                        go_wp2_with fail
                        clear x0 x1 x2 x3 xf xl
                        go_roundg (n3 - k1)
                        case measure => omega
                        case rel => exact ⟨k1 + 1, by omega, by omega, ⟨_, rfl, HNZ⟩, by go_num, HL1_35⟩
                · skip
                  have ek : n3 = k1 := by omega
                  clear hk1n hk1 hgn1
                  subst ek
                  go_wp2_with fail
                  obtain ⟨wq, hwq⟩ : ∃ z, z = wr := ⟨_, rfl⟩
                  subst hwq
                  go_loopg [282] (n3 + 1) (fun gn iv wr2 => ∃ k2 : Nat, k2 ≤ n3 ∧ n3 - k2 < gn ∧ iv = .int .i64 k2 ∧ Hid (BelW wq wr2))
                  case atStart => exact ⟨0, by omega, by omega, rfl, Below.refl _ _⟩
                  case round =>
                    obtain ⟨k2, hk2, hgn2, rfl, HL2⟩ := hrel
                    have hbl : Below wq.heap.size wq wr := HL2.out
                    have HB_L2 := hide (HB_L1.out.bel hbl)
                    have C1_L2 := hide (C1_L1.out.bel hbl)
                    have L3_L2 := hide (L3_L1.out.bel hbl)
                    have HL1_L2 := hide (HL1.out.bel hbl)
                    clear hbl
                    clear HB_L1 C1_L1 L3_L1
                    have hbnd2 := HN3.out
                    by_cases hk2n : k2 < n3
                    · skip
                      obtain ⟨pb, po, hp⟩ := TlW.form L3_L2.out (by omega)
                      subst hp
                      obtain ⟨Ak, ak, p0, p1, p2, p3, pl, ps⟩ := TlW.at L3_L2.out hk2n
                      obtain ⟨g1, g2, g3⟩ := HLP.out k2 hk2n
                      have hfx := HF3.out.2 k2 hk2n
                      obtain ⟨Y, hY⟩ : ∃ z, T3 k2 = z := ⟨_, rfl⟩
                      rw [hY] at p0 p1 p2 p3 ps hfx g1 g2 g3
                      obtain ⟨tn, htn⟩ : ∃ z, turnNN Y = z := ⟨_, rfl⟩
                      obtain ⟨sv, hsv⟩ : ∃ z, turnOk Y = z := ⟨_, rfl⟩
                      rw [htn] at g1 g2
                      rw [hsv] at g1 g2 g3
                      have H1 := hide htn
                      have H2 := hide hsv
                      have G1 := hide g1
                      have G2 := hide g2
                      have G3 := hide g3
                      have HFY := hide hfx
                      have PX := hide ps
                      clear htn hsv hfx ps hY g1 g2 g3
                      go_wp2_with fail
                      obtain ⟨v32, hW⟩ : ∃ W, W = wr.alloc (.cells #[.string Y.s, .int .i64 Y.v, .int .i64 Y.y, .slice Ak Y.n ak] 27) := ⟨_, rfl⟩
                      obtain ⟨xb, hxb⟩ : ∃ z, z = wr.heap.size := ⟨_, rfl⟩
                      have HN : Hid (BxT v32 xb Y.s Y.v Y.y (.slice Ak Y.n ak)) := by show BxT _ _ _ _ _ _; rw [hW, hxb]; exact BxT.new _ _ _ _ _ _
                      have hb : Below wr.heap.size wr v32 := by rw [hW]; exact (Below.refl _ _).alloc (Nat.le_refl _) _
                      rw [← hW, ← hxb]
                      clear hW hxb
                      have HB_33 := hide (HB_L2.out.bel hb)
                      clear HB_L2
                      have C1_33 := hide (C1_L2.out.bel hb)
                      clear C1_L2
                      have L3_33 := hide (L3_L2.out.bel hb)
                      clear L3_L2
                      have HL1_33 := hide (HL1_L2.out.bel hb)
                      clear HL1_L2
                      have HL2_33 := hide (HL2.out.bel hb)
                      clear HL2
                      have PX_33 := hide (PX.out.bel hb)
                      clear PX
                      clear hb
                      have Hx_33 := HN
                      clear HN
                      clear p0 p1 p2 p3 pl
                      refine (TurnMinute_spec Y 0 _ _ _ PX_33.out (Nat.le_refl _) HFY.out).mono ?_
                      rintro e v34 ⟨rfl, hb⟩
                      rw [H1.out, H2.out]
                      have HB_35 := hide (HB_33.out.bel hb)
                      clear HB_33
                      have C1_35 := hide (C1_33.out.bel hb)
                      clear C1_33
                      have L3_35 := hide (L3_33.out.bel hb)
                      clear L3_33
                      have HL1_35 := hide (HL1_33.out.bel hb)
                      clear HL1_33
                      have HL2_35 := hide (HL2_33.out.bel hb)
                      clear HL2_33
                      have PX_35 := hide (PX_33.out.bel hb)
                      clear PX_33
                      have x_35 := hide (Hx_33.out.bel hb)
                      clear Hx_33
                      clear hb
                      have hq : (Y.s.toList == fs.toList) = decide (Y.s = fs) := str_beq _ _
                      have G2b := hide G2.out
                      have G3b := hide G3.out
                      cases zb with
                      | false =>
                        cases sv with
                        | false =>
                          obtain ⟨x0, x1, x2, x3, xf, xl⟩ := x_35.out
                          go_wp2_with fail
                          clear x0 x1 x2 x3 xf xl
                          go_roundg (n3 - k2)
                          case measure => omega
                          case rel => exact ⟨k2 + 1, by omega, by omega, by go_num, HL2_35⟩
                        | true =>
                          have hle : fn ≤ tn := G2.out HZ.out rfl
                          have dlt : decide (tn < fn) = false := decide_eq_false (by omega)
                          clear hle
                          obtain ⟨x0, x1, x2, x3, xf, xl⟩ := x_35.out
                          go_wp2_with fail
                          clear x0 x1 x2 x3 xf xl
                          go_roundg (n3 - k2)
                          case measure => omega
                          case rel => exact ⟨k2 + 1, by omega, by omega, by go_num, HL2_35⟩
                      | true =>
                        cases hd : decide (Y.s = fs) with
                        | true =>
                          obtain rfl : sv = false := G3.out HZ.out (of_decide_eq_true hd)
                          rw [hd] at hq
                          clear hd
                          obtain ⟨x0, x1, x2, x3, xf, xl⟩ := x_35.out
                          go_wp2_with fail
                          clear x0 x1 x2 x3 xf xl
                          go_roundg (n3 - k2)
                          case measure => omega
                          case rel => exact ⟨k2 + 1, by omega, by omega, by go_num, HL2_35⟩
                        | false =>
                          rw [hd] at hq
                          clear hd
                          cases sv with
                          | false =>
                            obtain ⟨x0, x1, x2, x3, xf, xl⟩ := x_35.out
                            go_wp2_with fail
                            clear x0 x1 x2 x3 xf xl
                            go_roundg (n3 - k2)
                            case measure => omega
                            case rel => exact ⟨k2 + 1, by omega, by omega, by go_num, HL2_35⟩
                          | true =>
                            obtain ⟨x0, x1, x2, x3, xf, xl⟩ := x_35.out
                            go_wp2_with fail
                            clear x0 x1 x2 x3 xf xl
                            go_roundg (n3 - k2)
                            case measure => omega
                            case rel => exact ⟨k2 + 1, by omega, by omega, by go_num, HL2_35⟩
                    · skip
                      have ek : n3 = k2 := by omega
                      clear hk2n hk2 hgn2
                      subst ek
                      go_wp2_with fail
                      go_meet
                      case rel => exact ⟨HB_L2, C1_L2, L3_L2⟩
          case rest => as_aux_lemma =>
            obtain ⟨HB_32, C1_32, L3_32⟩ := hcut
            clear L3_32
            go_wp2_with fail
            refine (DrawAddCheck_any _ _ C1_32.out).mono ?_
            rintro e v33 ⟨u4, n4, T4, s4, qa, qb, rfl, hn, hcs, hs4, hl, hb⟩
            have HB_34 := hide (HB_32.out.bel hb)
            clear HB_32
            have C1_34 := hide (C1_32.out.bel hb)
            clear C1_32
            obtain ⟨A4, k4, rfl, _⟩ := hl.open_
            have L4_s : Hid (TlW v33 (.slice A4 n4 k4) n4 T4) := TlW.of hl (Nat.le_refl _)
            have HF4 : Hid (tfits T4 n4) := small_fits hn hcs
            have HN4 := hide hn
            have HC4 := hide hcs
            have HS4 : Hid (s4.size ≤ maxLen) := by show s4.size ≤ _; unfold maxLen; omega
            clear hl hn hcs hb hs4
            obtain ⟨seven, hseven⟩ : ∃ z, adOk T4 n4 s4 qa qb = z := ⟨_, rfl⟩
            have HSV := hide hseven
            clear hseven
            obtain ⟨DN, hDN⟩ : ∃ z, adN T4 n4 s4 qa qb = z := ⟨_, rfl⟩
            have HDN := hide hDN
            clear hDN
            obtain ⟨DT, hDT⟩ : ∃ z, adT T4 n4 s4 qa qb = z := ⟨_, rfl⟩
            have HDT := hide hDT
            clear hDT
            have HFD : Hid (tfits DT DN) := by show tfits _ _; rw [← HDN.out, ← HDT.out]; exact ad_fits HN4.out HC4.out
            have HDNL : Hid (DN ≤ 7) := by show DN ≤ 7; rw [← HDN.out]; have h1 := adN_le (s := s4) (m := qa) (b := qb) HF4.out; have h2 := HN4.out; omega
            go_wp2_with fail
            refine (AddCheck_impl T4 n4 s4 qa qb 0 _ _ _ L4_s.out (Nat.le_refl _) HF4.out HS4.out).mono ?_
            rintro e v35 ⟨st, rfl, ho, hb⟩
            rw [HSV.out]
            rw [HDN.out, HDT.out] at ho
            have HB_36 := hide (HB_34.out.bel hb)
            clear HB_34
            have C1_36 := hide (C1_34.out.bel hb)
            clear C1_34
            have L4_36 := hide (L4_s.out.bel hb)
            clear L4_s
            obtain ⟨D1, kd1, rfl, _⟩ := ho.sl.open_
            have D1_s : Hid (TlW v35 (.slice D1 DN kd1) DN DT) := TlW.of ho.sl (Nat.le_refl _)
            clear ho hb
            go_wp2_with fail
            refine (AddCheck_spec T4 n4 s4 qa qb 0 _ _ _ L4_36.out (Nat.le_refl _) HF4.out HS4.out).mono ?_
            rintro e v37 ⟨st, rfl, ho, hb⟩
            rw [HSV.out]
            rw [HDN.out, HDT.out] at ho
            have HB_38 := hide (HB_36.out.bel hb)
            clear HB_36
            have C1_38 := hide (C1_36.out.bel hb)
            clear C1_36
            have L4_38 := hide (L4_36.out.bel hb)
            clear L4_36
            have D1_38 := hide (D1_s.out.bel hb)
            clear D1_s
            obtain ⟨D2, kd2, rfl, _⟩ := ho.sl.open_
            have D2_s : Hid (TlW v37 (.slice D2 DN kd2) DN DT) := TlW.of ho.sl (Nat.le_refl _)
            clear ho hb
            go_wp2_with fail
            refine (DrawLeaveTeam_any _ _ C1_38.out).mono ?_
            rintro e v39 ⟨u5, n5, T5, s5, rfl, hn, hcs, hs5, hl, hb⟩
            have HB_40 := hide (HB_38.out.bel hb)
            clear HB_38
            have C1_40 := hide (C1_38.out.bel hb)
            clear C1_38
            have L4_40 := hide (L4_38.out.bel hb)
            clear L4_38
            have D1_40 := hide (D1_38.out.bel hb)
            clear D1_38
            have D2_40 := hide (D2_s.out.bel hb)
            clear D2_s
            obtain ⟨A5, k5, rfl, _⟩ := hl.open_
            have L5_s : Hid (TlW v39 (.slice A5 n5 k5) n5 T5) := TlW.of hl (Nat.le_refl _)
            have HF5 : Hid (tfits T5 n5) := small_fits hn hcs
            have HN5 := hide hn
            have HC5 := hide hcs
            have HS5 : Hid (s5.size ≤ maxLen) := by show s5.size ≤ _; unfold maxLen; omega
            clear hl hn hcs hb hs5
            clear C1_40
            obtain ⟨nine, hnine⟩ : ∃ z, lvOk T5 n5 s5 = z := ⟨_, rfl⟩
            have HNI := hide hnine
            clear hnine
            obtain ⟨VN, hVN⟩ : ∃ z, lvN T5 n5 s5 = z := ⟨_, rfl⟩
            have HVN := hide hVN
            clear hVN
            obtain ⟨VT, hVT⟩ : ∃ z, lvT T5 n5 s5 = z := ⟨_, rfl⟩
            have HVT := hide hVT
            clear hVT
            have HFV : Hid (tfits VT VN) := by show tfits _ _; rw [← HVN.out, ← HVT.out]; exact lv_fits HF5.out
            go_wp2_with fail
            refine (LeaveTeam_impl T5 n5 s5 0 _ _ _ L5_s.out (Nat.le_refl _) HF5.out HS5.out).mono ?_
            rintro e v41 ⟨st, rfl, ho, hb⟩
            rw [HNI.out]
            rw [HVN.out, HVT.out] at ho
            have HB_42 := hide (HB_40.out.bel hb)
            clear HB_40
            have L4_42 := hide (L4_40.out.bel hb)
            clear L4_40
            have D1_42 := hide (D1_40.out.bel hb)
            clear D1_40
            have D2_42 := hide (D2_40.out.bel hb)
            clear D2_40
            have L5_42 := hide (L5_s.out.bel hb)
            clear L5_s
            obtain ⟨V1, kv1, rfl, _⟩ := ho.sl.open_
            have V1_s : Hid (TlW v41 (.slice V1 VN kv1) VN VT) := TlW.of ho.sl (Nat.le_refl _)
            clear ho hb
            go_wp2_with fail
            refine (LeaveTeam_spec T5 n5 s5 0 _ _ _ L5_42.out (Nat.le_refl _) HF5.out HS5.out).mono ?_
            rintro e v43 ⟨st, rfl, ho, hb⟩
            rw [HNI.out]
            rw [HVN.out, HVT.out] at ho
            have HB_44 := hide (HB_42.out.bel hb)
            clear HB_42
            have L4_44 := hide (L4_42.out.bel hb)
            clear L4_42
            have D1_44 := hide (D1_42.out.bel hb)
            clear D1_42
            have D2_44 := hide (D2_42.out.bel hb)
            clear D2_42
            have L5_44 := hide (L5_42.out.bel hb)
            clear L5_42
            have V1_44 := hide (V1_s.out.bel hb)
            clear V1_s
            obtain ⟨V2, kv2, rfl, _⟩ := ho.sl.open_
            have V2_s : Hid (TlW v43 (.slice V2 VN kv2) VN VT) := TlW.of ho.sl (Nat.le_refl _)
            clear ho hb
            clear L5_44
            go_wp2_with fail
            refine (pSameBoard_same DT DN 0 _ 0 _ _ _ _ D1_44.out D2_44.out (Nat.le_refl _) (Nat.le_refl _) HFD.out).mono ?_
            rintro e v45 ⟨rfl, hb⟩
            have HB_46 := hide (HB_44.out.bel hb)
            clear HB_44
            have L4_46 := hide (L4_44.out.bel hb)
            clear L4_44
            have D1_46 := hide (D1_44.out.bel hb)
            clear D1_44
            have D2_46 := hide (D2_44.out.bel hb)
            clear D2_44
            have V1_46 := hide (V1_44.out.bel hb)
            clear V1_44
            have V2_46 := hide (V2_s.out.bel hb)
            clear V2_s
            clear hb
            clear D1_46
            go_wp2_with fail
            refine (pSameBoard_same VT VN 0 _ 0 _ _ _ _ V1_46.out V2_46.out (Nat.le_refl _) (Nat.le_refl _) HFV.out).mono ?_
            rintro e v47 ⟨rfl, hb⟩
            have HB_48 := hide (HB_46.out.bel hb)
            clear HB_46
            have L4_48 := hide (L4_46.out.bel hb)
            clear L4_46
            have D2_48 := hide (D2_46.out.bel hb)
            clear D2_46
            have V1_48 := hide (V1_46.out.bel hb)
            clear V1_46
            have V2_48 := hide (V2_46.out.bel hb)
            clear V2_46
            clear hb
            clear V1_48
            clear V2_48
            go_upto_if 374 with fail
            go_cut [] from 59 to 413 (fun wx => Hid (BelW w wx) ∧ Hid (TlW wx (.slice A4 n4 k4) n4 T4) ∧ Hid (TlW wx (.slice D2 DN kd2) DN DT))
            case first => as_aux_lemma =>
              cases seven with
              | false =>
                go_wp2_with fail
                go_meet
                case rel => exact ⟨HB_48, L4_48, D2_48⟩
              | true =>
                obtain ⟨hd1, hd2⟩ := ad_facts HSV.out
                rw [HDN.out] at hd1
                have HAD : Hid (∀ i, i < DN → i < n4 ∧ (DT i).s = (T4 i).s ∧ (T4 i).n ≤ 21 ∧ ((T4 i).s = s4 → (DT i).n = (T4 i).n + 1 ∧ (DT i).m (T4 i).n = qa ∧ (DT i).b (T4 i).n = qb)) := fun i hi => by
                  have h := hd2 i (by omega)
                  rw [HDT.out] at h
                  exact ⟨by omega, h.1, (HC4.out i (by omega)).2, h.2⟩
                clear hd1 hd2
                go_wp2_with fail
                go_loopg [377] (DN + 1) (fun gn iv wr1 => ∃ k1 : Nat, k1 ≤ DN ∧ DN - k1 < gn ∧ iv = .int .i64 k1 ∧ Hid (BelW v47 wr1))
                case atStart => exact ⟨0, by omega, by omega, rfl, Below.refl _ _⟩
                case round =>
                  obtain ⟨k1, hk1, hgn1, rfl, HL1⟩ := hrel
                  have hbl : Below v47.heap.size v47 wr := HL1.out
                  have HB_L1 := hide (HB_48.out.bel hbl)
                  have L4_L1 := hide (L4_48.out.bel hbl)
                  have D2_L1 := hide (D2_48.out.bel hbl)
                  clear hbl
                  clear HB_48 L4_48 D2_48
                  have hbnd1 := HDNL.out
                  by_cases hk1n : k1 < DN
                  · skip
                    obtain ⟨pb, po, hp⟩ := TlW.form D2_L1.out (by omega)
                    subst hp
                    obtain ⟨Ak, ak, p0, p1, p2, p3, pl, ps⟩ := TlW.at D2_L1.out hk1n
                    obtain ⟨e1, e2, e3, e4⟩ := HAD.out k1 hk1n
                    obtain ⟨Y, hY⟩ : ∃ z, DT k1 = z := ⟨_, rfl⟩
                    rw [hY] at p0 p1 p2 p3 ps e2 e4
                    have E1 := hide e1
                    have E2 := hide e2
                    have E3 := hide e3
                    have E4 := hide e4
                    have PX := hide ps
                    clear ps hY e1 e2 e3 e4
                    go_wp2_with fail
                    obtain ⟨v49, hW⟩ : ∃ W, W = wr.alloc (.cells #[.string Y.s, .int .i64 Y.v, .int .i64 Y.y, .slice Ak Y.n ak] 27) := ⟨_, rfl⟩
                    obtain ⟨xb, hxb⟩ : ∃ z, z = wr.heap.size := ⟨_, rfl⟩
                    have HN : Hid (BxT v49 xb Y.s Y.v Y.y (.slice Ak Y.n ak)) := by show BxT _ _ _ _ _ _; rw [hW, hxb]; exact BxT.new _ _ _ _ _ _
                    have hb : Below wr.heap.size wr v49 := by rw [hW]; exact (Below.refl _ _).alloc (Nat.le_refl _) _
                    rw [← hW, ← hxb]
                    clear hW hxb
                    have HB_50 := hide (HB_L1.out.bel hb)
                    clear HB_L1
                    have L4_50 := hide (L4_L1.out.bel hb)
                    clear L4_L1
                    have D2_50 := hide (D2_L1.out.bel hb)
                    clear D2_L1
                    have HL1_50 := hide (HL1.out.bel hb)
                    clear HL1
                    have PX_50 := hide (PX.out.bel hb)
                    clear PX
                    clear hb
                    have Hx_50 := HN
                    clear HN
                    clear p0 p1 p2 p3 pl
                    have hq : (Y.s.toList == s4.toList) = decide (Y.s = s4) := str_beq _ _
                    cases hd : decide (Y.s = s4) with
                    | false =>
                      rw [hd] at hq
                      clear hd
                      obtain ⟨x0, x1, x2, x3, xf, xl⟩ := Hx_50.out
                      (refine wp_region_below_lit (by kernel_rfl) (by kernel_rfl) ?_; (repeat (first | go_big_quiet_step (fail) | quiet_step (fail))); refine wpQuiet_nil ?_; intro w62 hb62; have hz62 := hb62.size; (try (simp at hz62)); obtain ⟨hcw62, hfw62⟩ := bcell hb62; (try (have hy62 : w.heap.size < w62.heap.size := by omega)); (try (have hyy62 : w.heap.size + 1 < w62.heap.size := by omega)))
                      have hb : Below v49.heap.size v49 w62 := (by repeat (first | (with_reducible exact Below.refl _ _) | (with_reducible refine below_ov ?_ ?_) | (with_reducible refine Below.setCell ?_ ?_ _) | (with_reducible refine Below.alloc ?_ ?_ _) | (with_reducible refine Below.drew ?_) | (with_reducible refine below_drewN ?_ _) | (refine Below.trans ?_ (Below.mono ‹Below _ _ _› (by first | omega | (simp; done) | (simp; omega)))) | exact Below.refl _ _ | omega | (focus (simp; done)) | (focus (simp; omega))))
                      clear hb62 hcw62 hfw62
                      have HB_51 := hide (HB_50.out.bel hb)
                      clear HB_50
                      have L4_51 := hide (L4_50.out.bel hb)
                      clear L4_50
                      have D2_51 := hide (D2_50.out.bel hb)
                      clear D2_50
                      have HL1_51 := hide (HL1_50.out.bel hb)
                      clear HL1_50
                      have PX_51 := hide (PX_50.out.bel hb)
                      clear PX_50
                      have x_51 := hide (Hx_50.out.bel hb)
                      clear Hx_50
                      clear hb
                      clear x0 x1 x2 x3 xf xl
                      clear hz62
                      go_wp2_with fail
                      go_roundg (DN - k1)
                      case measure => omega
                      case rel => exact ⟨k1 + 1, by omega, by omega, by go_num, HL1_51⟩
                    | true =>
                      have hs : (T4 k1).s = s4 := E2.out.symm.trans (of_decide_eq_true hd)
                      obtain ⟨h1, h2, h3⟩ := E4.out hs
                      rw [hd] at hq
                      clear hd hs
                      have hk4 := E1.out
                      obtain ⟨qb4, qo4, hq4⟩ := TlW.form L4_50.out (by omega)
                      subst hq4
                      obtain ⟨Bk, bk, q0, q1, q2, q3, ql, qs⟩ := TlW.at L4_50.out hk4
                      have h21 := E3.out
                      obtain ⟨cb, co, hcb⟩ := SlW.form PX_50.out (by omega)
                      subst hcb
                      obtain ⟨c0, cl⟩ := SlW.at PX_50.out (k := (T4 k1).n) (j := 0) (by omega) (by omega)
                      obtain ⟨c1, _⟩ := SlW.at PX_50.out (k := (T4 k1).n) (j := 1) (by omega) (by omega)
                      rw [show iiC Y.m Y.b (T4 k1).n 0 = .int .i64 qa by rw [← h2]; rfl] at c0
                      rw [show iiC Y.m Y.b (T4 k1).n 1 = .int .i64 qb by rw [← h3]; rfl] at c1
                      obtain ⟨M, hM⟩ : ∃ z, Y.n = z := ⟨_, rfl⟩
                      obtain ⟨NN, hNN⟩ : ∃ z, (T4 k1).n = z := ⟨_, rfl⟩
                      rw [hNN] at q3 c0 c1 h1 h21
                      rw [hM] at h1
                      rw [Nat.add_zero] at c0
                      obtain ⟨x0, x1, x2, x3, xf, xl⟩ := Hx_50.out
                      rw [hM] at x3
                      have z1 : IntKind.i64.wrap ((NN : Int) + 1) = (M : Int) := by rw [IntWalk.i64_in _ (by omega)]; omega
                      have z2 : IntKind.i64.wrap ((M : Int) - 1) = (NN : Int) := by rw [IntWalk.i64_in _ (by omega)]; omega
                      have hNM : NN < M := by omega
                      have hNM' : (NN : Int) < (M : Int) := by omega
                      clear h1 h2 h3 qs hM hNN h21
                      (refine wp_region_below_lit (by kernel_rfl) (by kernel_rfl) ?_; (repeat (first | go_big_quiet_step (fail) | quiet_step (fail))); refine wpQuiet_nil ?_; intro w62 hb62; have hz62 := hb62.size; (try (simp at hz62)); obtain ⟨hcw62, hfw62⟩ := bcell hb62; (try (have hy62 : w.heap.size < w62.heap.size := by omega)); (try (have hyy62 : w.heap.size + 1 < w62.heap.size := by omega)))
                      have hb : Below v49.heap.size v49 w62 := (by repeat (first | (with_reducible exact Below.refl _ _) | (with_reducible refine below_ov ?_ ?_) | (with_reducible refine Below.setCell ?_ ?_ _) | (with_reducible refine Below.alloc ?_ ?_ _) | (with_reducible refine Below.drew ?_) | (with_reducible refine below_drewN ?_ _) | (refine Below.trans ?_ (Below.mono ‹Below _ _ _› (by first | omega | (simp; done) | (simp; omega)))) | exact Below.refl _ _ | omega | (focus (simp; done)) | (focus (simp; omega))))
                      clear hb62 hcw62 hfw62
                      have HB_51 := hide (HB_50.out.bel hb)
                      clear HB_50
                      have L4_51 := hide (L4_50.out.bel hb)
                      clear L4_50
                      have D2_51 := hide (D2_50.out.bel hb)
                      clear D2_50
                      have HL1_51 := hide (HL1_50.out.bel hb)
                      clear HL1_50
                      have PX_51 := hide (PX_50.out.bel hb)
                      clear PX_50
                      have x_51 := hide (Hx_50.out.bel hb)
                      clear Hx_50
                      clear hb
                      clear x0 x1 x2 x3 xf xl
                      clear q0 q1 q2 q3 ql c0 c1 cl z1 z2 hNM hz62
                      go_wp2_with fail
                      go_roundg (DN - k1)
                      case measure => omega
                      case rel => exact ⟨k1 + 1, by omega, by omega, by go_num, HL1_51⟩
                  · skip
                    have ek : DN = k1 := by omega
                    clear hk1n hk1 hgn1
                    subst ek
                    go_wp2_with fail
                    go_meet
                    case rel => exact ⟨HB_L1, L4_L1, D2_L1⟩
            case rest => as_aux_lemma =>
              obtain ⟨HB_49, L4_49, D2_49⟩ := hcut
              go_wp2_with fail
              go_ret
              exact ⟨rfl, HB_49.out⟩

set_option maxRecDepth 100000 in
theorem FnBoards_lifted (os : Os) (started : os.Started) (H : Type) (enc : TypeId × Value → H) :
    ReturnsInHanded {} Try.checked os 3 .any (Rows.fnBoardsSpec.pre6 enc Try.prog Try.f3 Rows.fnBoardsRow.domain false) (Rows.fnBoardsSpec.post enc Try.prog Try.f3 false true false false) := by
  refine returnsInHanded_of_change_sized (C := Try.checked) Try.own started (by kernel_rfl) Try.func3
    (ChangeSpec.witness6 (enc := enc) (C := Try.checked) false ⟨#[], #[.slice none 0 0, .slice none 0 0], []⟩ 8 (by kernel_rfl) (by kernel_rfl) (by kernel_rfl) (by kernel_rfl)) ?_
  intro W base args ds gs before hval0 hW _ hsz _
  have hval : ∀ (j : Nat) t v, Try.f3.params[j]? = some t → args[j]? = some v → Value.okWide Try.prog W .any base t v := hval0
  have hW' := hW
  obtain ⟨p, q, hA0, hV, rfl, hfz, hnd⟩ := hW
  have hA : DataW.TrodAll enc Try.prog W 0 (fun _ => true) true Try.f3.params.toList args.toList ds p := hA0
  rw [Try.params3] at hA hval
  obtain ⟨v0, vs0, d0, ds0, p0, q0, hargs, rfl, rfl, h0, r0⟩ := trodAll_cons hA
  obtain ⟨v1, vs1, d1, ds1, p1, q1, rfl, rfl, rfl, h1, r1⟩ := trodAll_cons r0
  obtain ⟨rfl, rfl, rfl⟩ := trodAll_nil r1
  obtain rfl : args = #[v0, v1] := by cases args; simp_all
  obtain ⟨rfl, rfl⟩ := trodVars_none hV
  have hend : ∀ W', Below W.heap.size W W' → Rows.fnBoardsSpec.post enc Try.prog Try.f3 false true false false W #[v0, v1] (.bool true) W' := fun W' hb =>
    law_post (T := 4) Try.laidOut rfl (by kernel_rfl) rfl Try.underlying4 hW' rfl hb
  clear hW' hA0 hval0
  obtain ⟨A, n, cap, rfl, hk0, hm0, hA0⟩ := openByte (hval 0 _ v0 rfl rfl) h0
  obtain ⟨B, mm, capB, rfl, hk1, hm1, hA1⟩ := openByte (hval 1 _ v1 rfl rfl) h1
  refine (FnBoards_walk A n cap B mm capB W hA0 hA1).mono fun e W' ⟨he, hb⟩ => ?_
  subst he
  exact ⟨_, rfl, hend W' hb⟩
/-- The statement. -/
theorem FnBoards_holds : Rows.FnBoardsSaid :=
  OpenClaim.holds_of_wide 3 Try.f3 rfl rfl rfl rfl rfl rfl rfl ⟨rfl, rfl, rfl, rfl, rfl⟩ rfl rfl rfl rfl rfl (by kernel_rfl) Try.func3 (show joinedFacts Try.prog 3 Try.f3 Rows.fnBoardsSpec Rows.fnBoardsRow = true from by unfold joinedFacts; rw [Try.heard, Try.enters, Try.lifts, Try.laidOut, Try.rowed, Try.made]; kernel_rfl)
    (of_decide_eq_true (by kernel_rfl)) (by unfold Func.isWrapper; first | (rw [if_pos (by decide +kernel)]; kernel_rfl) | (rw [if_neg (by decide +kernel)]; exact ⟨rfl, rfl⟩))
    (fun os started H enc _ => FnBoards_lifted os started H enc)
#print axioms FnBoards_holds
end Go.Proofs.Ytnfhgnibjebmlaa
