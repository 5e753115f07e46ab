/-
  FnReliefs: the law returns true at every input. No condition.
-/
import Derived.Test.YtnmmkechkcfjnaaGreatDoorQ15
import Derived.Test.YtnmmkechkcfjnaaGreatDoorTie
import Derived.Lay
import Derived.LaidMore
import Derived.SevenTiedAt
import Derived.Stop.Joined
import Derived.Deep.Cut
import Derived.Deep.CutRange
import Derived.Stop.LaidErr
namespace Go.Proofs.YtnmmkechkcfjnaaGreatDoor
set_option linter.unusedVariables false
set_option linter.unusedSimpArgs false
open Go.ChangeShapes Go.WideShapes Go.ChangeAt Go.RowKit Go.Joins Go.Deep

theorem tab_of_laid {W : World} (h : laidMetH Tryz.prog Rows.fnReliefsRow.laid W) : Tab W := by
  rw [MakeChecks.laidMetH_plain _ _ _ (by kernel_rfl)] at h
  have h2 : laidMet Tryz.prog [("internal/strconv.uint64pow10", Lib.tabData .u64 Lib.pow10Tab)] W := laidMet.tail (laidMet.tail h)
  exact Lib.tabIs_of_head pow10_named (by kernel_rfl) Tryz.underlying133 Tryz.underlying53 (by kernel_rfl) (by kernel_rfl) h2
theorem Tab.bel {w w' : World} (h : Tab w) (hb : Below w.heap.size w w') : Tab w' := h.below hb (Nat.le_refl _)
set_option maxHeartbeats 800000 in
theorem big_any (A : Option Addr) (n cap : Nat) (B : Option Addr) (m capB : Nat) (w : World) (hn : n ≤ 9223372036854775807) (hm : m ≤ 9223372036854775807) :
    Calls Tryz.prog 4 #[.slice A n cap, .slice B m capB] w fun e w' => (∃ b : Bool, e = .returned (.bool b)) ∧ w = w' := by
  by_cases h : n > 1048576
  · have d : decide ((n : Int) > 1048576) = true := decide_eq_true (by omega)
    have d' : decide (1048576 < n) = true := decide_eq_true (by omega)
    go_enter Tryz.func4, Tryz.ntmps4
    go_wp2_with fail
    go_ret
    exact ⟨⟨_, rfl⟩, rfl⟩
  · have d : decide ((n : Int) > 1048576) = false := decide_eq_false (by omega)
    have d' : decide (1048576 < n) = false := decide_eq_false (by omega)
    have z : IntKind.i64.wrap (1048576 - (n : Int)) = 1048576 - (n : Int) := IntWalk.i64_in _ (by omega)
    go_enter Tryz.func4, Tryz.ntmps4
    go_wp2_with fail
    go_ret
    exact ⟨⟨_, rfl⟩, rfl⟩
set_option maxRecDepth 100000 in
set_option maxHeartbeats 12800000 in
theorem FnReliefs_walk (A : Option Addr) (n cap : Nat) (B : Option Addr) (mm capB : Nat) (w : World) (hc : Code w (.slice A n cap)) (hm : Code w (.slice B mm capB)) (ht : Tab w) :
    Calls Tryz.prog 3 #[.slice A n cap, .slice B mm capB] w fun e w' => e = .returned (.bool true) ∧ Below w.heap.size w w' := by
  go_enter Tryz.func3, Tryz.ntmps3
  go_wp2_with fail
  refine (big_any A n cap B mm capB w hc.len hm.len).mono ?_
  rintro e w0 ⟨⟨b0, rfl⟩, rfl⟩
  cases b0 with
  | true =>
    go_wp2_with fail
    go_ret
    exact ⟨rfl, Below.refl _ _⟩
  | false =>
    go_wp2_with fail
    have HB_0 : Hid (BelW w w) := Below.refl _ _
    have C0_0 := hide hc
    have C1_0 := hide hm
    have TB_0 := hide ht
    refine (DrawReliefPlan_any _ _ C0_0.out).mono ?_
    rintro e v1 ⟨u0, n0, cs, p, q, r, t, rfl, hn, hcs, hl, hb⟩
    have HB_2 := hide (HB_0.out.bel hb)
    clear HB_0
    have C0_2 := hide (C0_0.out.bel hb)
    clear C0_0
    have C1_2 := hide (C1_0.out.bel hb)
    clear C1_0
    have TB_2 := hide (TB_0.out.bel hb)
    clear TB_0
    obtain ⟨CS, kc, rfl, _, _⟩ := id hl.open_
    have CS_s : Hid (SlW v1 1 (.slice CS n0 kc) n0 (sC cs)) := SlW.of hl (Nat.le_refl _)
    have HPF0 : Hid (pfits cs n0) := ⟨by omega, fun i hi => by have := hcs i hi; unfold maxLen; omega⟩
    clear hl hn hcs hb
    clear C0_2
    obtain ⟨ok, hok⟩ : ∃ z, plOk cs n0 p q r t = z := ⟨_, rfl⟩
    have HOK := hide hok
    clear hok
    obtain ⟨NP, hNP⟩ : ∃ z, plN cs n0 p q r t = z := ⟨_, rfl⟩
    have HNP := hide hNP
    clear hNP
    obtain ⟨PC, hPC⟩ : ∃ z, plC cs n0 = z := ⟨_, rfl⟩
    have HPC := hide hPC
    clear hPC
    obtain ⟨PA, hPA⟩ : ∃ z, plA p r = z := ⟨_, rfl⟩
    have HPA := hide hPA
    clear hPA
    obtain ⟨PB, hPB⟩ : ∃ z, plB p q r = z := ⟨_, rfl⟩
    have HPB := hide hPB
    clear hPB
    obtain ⟨sb, hsb⟩ : ∃ z, spanB p q r t = z := ⟨_, rfl⟩
    have HSB := hide hsb
    clear hsb
    obtain ⟨ln, hln⟩ : ∃ z, lcNN p q r t = z := ⟨_, rfl⟩
    have HLN := hide hln
    clear hln
    have HNPL : Hid (NP ≤ 1048576) := by show NP ≤ _; rw [← HNP.out]; exact plN_le
    go_wp2_with fail
    refine (ReliefPlan_impl cs n0 p q r t 0 _ _ _ CS_s.out (Nat.le_refl _) HPF0.out).mono ?_
    rintro e v3 ⟨st, rfl, ho, hb⟩
    rw [HOK.out]
    rw [HNP.out, HPC.out, HPA.out, HPB.out] at ho
    have HB_4 := hide (HB_2.out.bel hb)
    clear HB_2
    have C1_4 := hide (C1_2.out.bel hb)
    clear C1_2
    have TB_4 := hide (TB_2.out.bel hb)
    clear TB_2
    have CS_4 := hide (CS_s.out.bel hb)
    clear CS_s
    obtain ⟨P1, kp1, rfl, _, _⟩ := id ho.sl.open_
    have P1_s : Hid (SlW v3 3 (.slice P1 NP kp1) NP (siiC PC PA PB)) := SlW.of ho.sl (Nat.le_refl _)
    clear ho hb
    go_wp2_with fail
    refine (ReliefPlan_spec cs n0 p q r t 0 _ _ _ CS_4.out (Nat.le_refl _) HPF0.out).mono ?_
    rintro e v5 ⟨st, rfl, ho, hb⟩
    rw [HOK.out]
    rw [HNP.out, HPC.out, HPA.out, HPB.out] at ho
    have HB_6 := hide (HB_4.out.bel hb)
    clear HB_4
    have C1_6 := hide (C1_4.out.bel hb)
    clear C1_4
    have TB_6 := hide (TB_4.out.bel hb)
    clear TB_4
    have CS_6 := hide (CS_4.out.bel hb)
    clear CS_4
    have P1_6 := hide (P1_s.out.bel hb)
    clear P1_s
    obtain ⟨P2, kp2, rfl, _, _⟩ := id ho.sl.open_
    have P2_s : Hid (SlW v5 3 (.slice P2 NP kp2) NP (siiC PC PA PB)) := SlW.of ho.sl (Nat.le_refl _)
    clear ho hb
    go_wp2_with fail
    refine (LeastCrews_impl p q r t _).mono ?_
    rintro e w9 ⟨rfl, rfl⟩
    rw [HLN.out, HSB.out]
    go_wp2_with fail
    refine (LeastCrews_spec p q r t _).mono ?_
    rintro e w9 ⟨rfl, rfl⟩
    rw [HLN.out, HSB.out]
    go_upto_region 8 with fail
    go_cut [118] from 93 to 118 (fun s wx => s = .bool false ∧ Hid (BelW w wx) ∧ Hid (Code wx (.slice B mm capB)) ∧ Hid (Tab wx) ∧ Hid (SlW wx 1 (.slice CS n0 kc) n0 (sC cs)) ∧ Hid (SlW wx 3 (.slice P1 NP kp1) NP (siiC PC PA PB)) ∧ Hid (SlW wx 3 (.slice P2 NP kp2) NP (siiC PC PA PB)))
    case first => as_aux_lemma =>
      go_wp2_with fail
      refine (pSamePeriods_same PC PA PB NP 0 _ 0 _ _ _ _ P1_6.out P2_s.out (Nat.le_refl _) (Nat.le_refl _) (by have := HNPL.out; omega)).mono ?_
      rintro e v7 ⟨rfl, hb⟩
      have HB_8 := hide (HB_6.out.bel hb)
      clear HB_6
      have C1_8 := hide (C1_6.out.bel hb)
      clear C1_6
      have TB_8 := hide (TB_6.out.bel hb)
      clear TB_6
      have CS_8 := hide (CS_6.out.bel hb)
      clear CS_6
      have P1_8 := hide (P1_6.out.bel hb)
      clear P1_6
      have P2_8 := hide (P2_s.out.bel hb)
      clear P2_s
      clear hb
      cases ok with
      | false =>
        go_wp2_with fail
        go_meet
        case rel => exact ⟨rfl, HB_8, C1_8, TB_8, CS_8, P1_8, P2_8⟩
      | true =>
        obtain rfl : sb = true := by rw [← HSB.out]; exact (pl_parts HOK.out).1
        go_wp2_with fail
        go_meet
        case rel => exact ⟨rfl, HB_8, C1_8, TB_8, CS_8, P1_8, P2_8⟩
    case rest => as_aux_lemma =>
      obtain ⟨rfl, HB_7, C1_7, TB_7, CS_7, P1_7, P2_7⟩ := hcut
      go_upto_if 119 with fail
      go_cut [] from 18 to 174 (fun wx => Hid (BelW w wx) ∧ Hid (Code wx (.slice B mm capB)) ∧ Hid (Tab wx) ∧ Hid (SlW wx 1 (.slice CS n0 kc) n0 (sC cs)) ∧ Hid (SlW wx 3 (.slice P1 NP kp1) NP (siiC PC PA PB)) ∧ Hid (SlW wx 3 (.slice P2 NP kp2) NP (siiC PC PA PB)))
      case first => as_aux_lemma =>
        cases ok with
        | false =>
          go_wp2_with fail
          go_meet
          case rel => exact ⟨HB_7, C1_7, TB_7, CS_7, P1_7, P2_7⟩
        | true =>
          have hper := plan_periods HOK.out
          have hres := plan_rests HOK.out
          have hpp := pl_parts HOK.out
          have hlen := pl_len HOK.out
          have hfac := pl_facts (c := cs) (n := n0) hpp.1
          rw [HNP.out, HPC.out, HPA.out, HPB.out] at hper hres
          rw [HNP.out] at hlen
          have HPER := hide hper
          have HLE : Hid (ln ≤ n0) := by show ln ≤ _; rw [← HLN.out, lcNN, if_pos hpp.1]; exact hpp.2.2.2.1
          have HNP1 : Hid (1 ≤ NP ∧ NP ≤ 12) := hlen.2
          have HBD : Hid ((0 ≤ p ∧ p ≤ 9999) ∧ (0 ≤ q ∧ q ≤ 9999) ∧ 1 ≤ r ∧ r ≤ 720 ∧ 0 ≤ t ∧ t ≤ 720) := ⟨hfac.1, hfac.2.1, hfac.2.2.2.1.1, hfac.2.2.2.1.2, hfac.2.2.2.2⟩
          have HSO : Hid (srOk PC PA PB NP t = true) := by show _ = _; simp only [srOk, Bool.and_eq_true, inB_iff]; exact ⟨hper, hfac.2.2.2.2⟩
          have HRES := hide hres
          have HPF : Hid (pfits PC NP) := ⟨HNPL.out, fun i hi => by
            rw [← HPC.out]
            have hn1 := pl_n HOK.out
            exact HPF0.out.2 _ (Nat.mod_lt _ (by omega))⟩
          have HCH : Hid (∀ k, k < NP → PA k = plT p q r k ∧ PB k = plT p q r (k + 1) ∧ PB k - PA k ≤ r ∧ 0 ≤ PA k ∧ PA k ≤ 9999 ∧ 0 ≤ PB k ∧ PB k ≤ 9999) := fun k hk => by
            have h := plT_at HOK.out (k := k) (by rw [HNP.out]; exact hk)
            rw [HPA.out, HPB.out] at h
            exact h
          have HCZ : Hid (plT p q r 0 = p) := plT_zero HOK.out
          have HCE : Hid (plT p q r NP = q) := by show _ = _; rw [← HNP.out]; exact plT_end HOK.out
          clear hper hres hpp hlen hfac
          go_wp2_with fail
          refine (ShortRests_impl PC PA PB NP t 0 _ _ _ P1_7.out (Nat.le_refl _) HPF.out).mono ?_
          rintro e v8 ⟨st, rfl, ho, hb⟩
          rw [HSO.out]
          rw [HRES.out] at ho
          have HB_9 := hide (HB_7.out.bel hb)
          clear HB_7
          have C1_9 := hide (C1_7.out.bel hb)
          clear C1_7
          have TB_9 := hide (TB_7.out.bel hb)
          clear TB_7
          have CS_9 := hide (CS_7.out.bel hb)
          clear CS_7
          have P1_9 := hide (P1_7.out.bel hb)
          clear P1_7
          have P2_9 := hide (P2_7.out.bel hb)
          clear P2_7
          obtain ⟨SR, ksr, rfl, _, _⟩ := id ho.sl.open_
          clear ho hb
          go_wp2_with fail
          refine (ArePeriods_impl PC PA PB NP 0 _ _ _ P1_9.out (Nat.le_refl _) HPF.out).mono ?_
          rintro e v10 ⟨rfl, hb⟩
          rw [HPER.out]
          have HB_11 := hide (HB_9.out.bel hb)
          clear HB_9
          have C1_11 := hide (C1_9.out.bel hb)
          clear C1_9
          have TB_11 := hide (TB_9.out.bel hb)
          clear TB_9
          have CS_11 := hide (CS_9.out.bel hb)
          clear CS_9
          have P1_11 := hide (P1_9.out.bel hb)
          clear P1_9
          have P2_11 := hide (P2_9.out.bel hb)
          clear P2_9
          clear hb
          have h1 := HNP1.out
          have h2 := HLE.out
          have dn0 : ((NP : Int) == 0) = false := by simp; omega
          have dn0' : (NP == 0) = false := by simp; omega
          have dl : decide ((n0 : Int) < ln) = false := decide_eq_false (by omega)
          clear h1 h2
          go_wp2_with fail
          go_loopg [20, 152] (NP + 1) (fun gn av iv wr => ∃ k : Nat, k ≤ NP ∧ NP - k < gn ∧ (∃ z : Int, av = .int .i64 z ∧ Hid (plT p q r k = z)) ∧ iv = .int .i64 k ∧ Hid (BelW v10 wr))
          case atStart => exact ⟨0, by omega, by omega, ⟨_, rfl, HCZ⟩, rfl, Below.refl _ _⟩
          case round =>
            obtain ⟨k, hk, hgn, ⟨zz, rfl, HZ⟩, rfl, HL⟩ := hrel
            have hbl : Below v10.heap.size v10 wr := HL.out
            have HB_L := hide (HB_11.out.bel hbl)
            have C1_L := hide (C1_11.out.bel hbl)
            have TB_L := hide (TB_11.out.bel hbl)
            have CS_L := hide (CS_11.out.bel hbl)
            have P1_L := hide (P1_11.out.bel hbl)
            have P2_L := hide (P2_11.out.bel hbl)
            clear hbl HB_11 C1_11 TB_11 CS_11 P1_11 P2_11
            have hbnd := HNPL.out
            by_cases hkn : k < NP
            · skip
              obtain ⟨pb, po, hpb⟩ := SlW.form P2_L.out (by omega)
              subst hpb
              obtain ⟨p0, p1, p2, pl⟩ := SlW.p3 P2_L.out hkn
              obtain ⟨h1, h2, h3, h4, h5, h6, h7⟩ := HCH.out k hkn
              rw [HZ.out] at h1
              have HZ2 : Hid (plT p q r (k + 1) = PB k) := h2.symm
              obtain ⟨sk, hsk⟩ : ∃ z, PC k = z := ⟨_, rfl⟩
              obtain ⟨yk, hyk⟩ : ∃ z, PB k = z := ⟨_, rfl⟩
              rw [hsk] at p0
              rw [h1] at p1 h3 h4 h5
              rw [hyk] at p2 h3 h6 h7 HZ2
              have z1 : IntKind.i64.wrap (yk - zz) = yk - zz := IntWalk.i64_in _ (by omega)
              have d1 : decide (r < yk - zz) = false := decide_eq_false (by omega)
              clear h1 h2 h3 h4 h5 h6 h7 hsk hyk HZ
              go_wp2_with fail
              obtain ⟨v12, hW⟩ : ∃ W, W = wr.alloc (.cells #[.string sk, .int .i64 zz, .int .i64 yk] 38) := ⟨_, rfl⟩
              obtain ⟨xb, hxb⟩ : ∃ z, z = wr.heap.size := ⟨_, rfl⟩
              have HN : Hid (BxP v12 xb sk zz yk) := by show BxP _ _ _ _ _; rw [hW, hxb]; exact BxP.new _ _ _ _ _
              have hb : Below wr.heap.size wr v12 := by rw [hW]; exact (Below.refl _ _).alloc (Nat.le_refl _) _
              rw [← hW, ← hxb]
              clear hW hxb
              have HB_13 := hide (HB_L.out.bel hb)
              clear HB_L
              have C1_13 := hide (C1_L.out.bel hb)
              clear C1_L
              have TB_13 := hide (TB_L.out.bel hb)
              clear TB_L
              have CS_13 := hide (CS_L.out.bel hb)
              clear CS_L
              have P1_13 := hide (P1_L.out.bel hb)
              clear P1_L
              have P2_13 := hide (P2_L.out.bel hb)
              clear P2_L
              have HL_13 := hide (HL.out.bel hb)
              clear HL
              clear hb
              have Hx_13 := HN
              clear HN
              clear p0 p1 p2 pl
              go_roundg (NP - k)
              case measure => omega
              case rel => exact ⟨k + 1, by omega, by omega, ⟨_, rfl, HZ2⟩, by go_num, HL_13⟩
            · skip
              have ek : NP = k := by omega
              clear hkn hk hgn
              subst ek
              rw [HCE.out] at HZ
              obtain rfl : q = zz := HZ.out
              go_wp2_with fail
              go_meet
              case rel => exact ⟨HB_L, C1_L, TB_L, CS_L, P1_L, P2_L⟩
      case rest => as_aux_lemma =>
        obtain ⟨HB_8, C1_8, TB_8, CS_8, P1_8, P2_8⟩ := hcut
        clear CS_8
        clear P1_8
        clear P2_8
        go_wp2_with fail
        refine (DrawAddPeriod_any _ _ C1_8.out).mono ?_
        rintro e v9 ⟨u2, n2, c2, a2, b2, s2, x2, y2, rfl, hn, hcs, hs2, hl, hb⟩
        have HB_10 := hide (HB_8.out.bel hb)
        clear HB_8
        have C1_10 := hide (C1_8.out.bel hb)
        clear C1_8
        have TB_10 := hide (TB_8.out.bel hb)
        clear TB_8
        obtain ⟨A2, k2, rfl, _, _⟩ := id hl.open_
        have L2_s : Hid (SlW v9 3 (.slice A2 n2 k2) n2 (siiC c2 a2 b2)) := SlW.of hl (Nat.le_refl _)
        have HPF2 : Hid (pfits c2 n2) := ⟨by omega, fun i hi => by have := hcs i hi; unfold maxLen; omega⟩
        have HN2 := hide hn
        have HC2 := hide hcs
        have HS2 : Hid (s2.size ≤ maxLen) := by show s2.size ≤ _; unfold maxLen; omega
        clear hl hn hcs hb hs2
        go_wp2_with fail
        obtain ⟨v11, hW⟩ : ∃ W, W = v9.alloc (.cells #[.string s2, .int .i64 x2, .int .i64 y2] 38) := ⟨_, rfl⟩
        obtain ⟨ab, hab⟩ : ∃ z, z = v9.heap.size := ⟨_, rfl⟩
        have HN : Hid (BxP v11 ab s2 x2 y2) := by show BxP _ _ _ _ _; rw [hW, hab]; exact BxP.new _ _ _ _ _
        have hb : Below v9.heap.size v9 v11 := by rw [hW]; exact (Below.refl _ _).alloc (Nat.le_refl _) _
        rw [← hW, ← hab]
        clear hW hab
        have HB_12 := hide (HB_10.out.bel hb)
        clear HB_10
        have C1_12 := hide (C1_10.out.bel hb)
        clear C1_10
        have TB_12 := hide (TB_10.out.bel hb)
        clear TB_10
        have L2_12 := hide (L2_s.out.bel hb)
        clear L2_s
        clear hb
        have Ha_12 := HN
        clear HN
        obtain ⟨three, hthree⟩ : ∃ z, adOk c2 a2 b2 n2 s2 x2 y2 = z := ⟨_, rfl⟩
        have HTH := hide hthree
        clear hthree
        obtain ⟨ND, hND⟩ : ∃ z, adN c2 a2 b2 n2 s2 x2 y2 = z := ⟨_, rfl⟩
        have HND := hide hND
        clear hND
        obtain ⟨DC, hDC⟩ : ∃ z, adS c2 (adK c2 a2 n2 s2 x2) s2 = z := ⟨_, rfl⟩
        have HDC := hide hDC
        clear hDC
        obtain ⟨DA, hDA⟩ : ∃ z, adI a2 (adK c2 a2 n2 s2 x2) x2 = z := ⟨_, rfl⟩
        have HDA := hide hDA
        clear hDA
        obtain ⟨DB, hDB⟩ : ∃ z, adI b2 (adK c2 a2 n2 s2 x2) y2 = z := ⟨_, rfl⟩
        have HDB := hide hDB
        clear hDB
        have HNDL : Hid (ND ≤ 1048576) := by show ND ≤ _; rw [← HND.out]; exact adN_le (by have := HN2.out; omega)
        refine (AddPeriod_impl c2 a2 b2 n2 s2 x2 y2 0 _ _ _ L2_12.out (Nat.le_refl _) HPF2.out HS2.out).mono ?_
        rintro e v13 ⟨st, rfl, ho, hb⟩
        rw [HTH.out]
        rw [HND.out, HDC.out, HDA.out, HDB.out] at ho
        have HB_14 := hide (HB_12.out.bel hb)
        clear HB_12
        have C1_14 := hide (C1_12.out.bel hb)
        clear C1_12
        have TB_14 := hide (TB_12.out.bel hb)
        clear TB_12
        have L2_14 := hide (L2_12.out.bel hb)
        clear L2_12
        have a_14 := hide (Ha_12.out.bel hb)
        clear Ha_12
        obtain ⟨D1, kd1, rfl, _, _⟩ := id ho.sl.open_
        have D1_s : Hid (SlW v13 3 (.slice D1 ND kd1) ND (siiC DC DA DB)) := SlW.of ho.sl (Nat.le_refl _)
        clear ho hb
        obtain ⟨a0, a1, a2, af, al⟩ := a_14.out
        go_wp2_with fail
        clear a0 a1 a2 af al
        refine (AddPeriod_spec c2 a2 b2 n2 s2 x2 y2 0 _ _ _ L2_14.out (Nat.le_refl _) HPF2.out HS2.out).mono ?_
        rintro e v15 ⟨st, rfl, ho, hb⟩
        rw [HTH.out]
        rw [HND.out, HDC.out, HDA.out, HDB.out] at ho
        have HB_16 := hide (HB_14.out.bel hb)
        clear HB_14
        have C1_16 := hide (C1_14.out.bel hb)
        clear C1_14
        have TB_16 := hide (TB_14.out.bel hb)
        clear TB_14
        have L2_16 := hide (L2_14.out.bel hb)
        clear L2_14
        have a_16 := hide (a_14.out.bel hb)
        clear a_14
        have D1_16 := hide (D1_s.out.bel hb)
        clear D1_s
        obtain ⟨D2, kd2, rfl, _, _⟩ := id ho.sl.open_
        have D2_s : Hid (SlW v15 3 (.slice D2 ND kd2) ND (siiC DC DA DB)) := SlW.of ho.sl (Nat.le_refl _)
        clear ho hb
        go_wp2_with fail
        refine (pSamePeriods_same DC DA DB ND 0 _ 0 _ _ _ _ D1_16.out D2_s.out (Nat.le_refl _) (Nat.le_refl _) (by have := HNDL.out; omega)).mono ?_
        rintro e v17 ⟨rfl, hb⟩
        have HB_18 := hide (HB_16.out.bel hb)
        clear HB_16
        have C1_18 := hide (C1_16.out.bel hb)
        clear C1_16
        have TB_18 := hide (TB_16.out.bel hb)
        clear TB_16
        have L2_18 := hide (L2_16.out.bel hb)
        clear L2_16
        have a_18 := hide (a_16.out.bel hb)
        clear a_16
        have D1_18 := hide (D1_16.out.bel hb)
        clear D1_16
        have D2_18 := hide (D2_s.out.bel hb)
        clear D2_s
        clear hb
        go_upto_if 201 with fail
        go_cut [] from 29 to 267 (fun wx => Hid (BelW w wx) ∧ Hid (Code wx (.slice B mm capB)) ∧ Hid (Tab wx) ∧ Hid (SlW wx 3 (.slice A2 n2 k2) n2 (siiC c2 a2 b2)) ∧ Hid (BxP wx ab s2 x2 y2) ∧ Hid (SlW wx 3 (.slice D1 ND kd1) ND (siiC DC DA DB)) ∧ Hid (SlW wx 3 (.slice D2 ND kd2) ND (siiC DC DA DB)))
        case first => as_aux_lemma =>
          cases three with
          | false =>
            go_wp2_with fail
            go_meet
            case rel => exact ⟨HB_18, C1_18, TB_18, L2_18, a_18, D1_18, D2_18⟩
          | true =>
            obtain ⟨h1, h2, h3, h4, h5, h6, h7⟩ := add_facts HTH.out
            have hND : ND = n2 + 1 := by rw [← HND.out, adN, if_pos HTH.out]
            have HHS := hide (crews_has (s := s2) h2)
            rw [h3] at HHS
            rw [← hND, HDC.out, HDA.out, HDB.out] at h2 h4 h5 HHS
            have HCA : Hid (caOk DC DA DB ND x2 = true) := h2
            have HAK1 : Hid (askP c2 a2 b2 n2 s2 9999 = true) := h1
            have HAK2 : Hid (askP DC DA DB ND s2 9999 = true) := h4
            have HPFD : Hid (pfits DC ND) := by
              have hk := adK_le c2 a2 n2 s2 x2
              refine ⟨by have := HN2.out; omega, fun i hi => ?_⟩
              rw [← HDC.out]
              unfold adS
              split
              · exact HPF2.out.2 i (by omega)
              · split
                · exact HS2.out
                · exact HPF2.out.2 (i - 1) (by omega)
            obtain ⟨wb, hwb⟩ : ∃ z, wkN c2 a2 b2 n2 s2 9999 = z := ⟨_, rfl⟩
            have HWB := hide hwb
            rw [hwb] at h5 h6 h7
            have HWD : Hid (wkN DC DA DB ND s2 9999 = wb + (y2 - x2)) := h5
            have hp2 := perB_iff.1 (add_parts HTH.out).2.1
            have hn2 := HN2.out
            have HZB : Hid (0 ≤ wb ∧ wb ≤ 200000 ∧ 0 ≤ x2 ∧ x2 ≤ 9999 ∧ 0 ≤ y2 ∧ y2 ≤ 9999) := by show _ ∧ _; omega
            clear h1 h2 h3 h4 h5 h6 h7 hND hwb hp2 hn2
            have HKL : Hid (caN DC DA DB ND x2 ≤ 1048576) := caN_le
            obtain ⟨NK, hNK⟩ : ∃ z, caN DC DA DB ND x2 = z := ⟨_, rfl⟩
            have HNK := hide hNK
            clear hNK
            obtain ⟨KS, hKS⟩ : ∃ z, caS DC DA DB ND x2 = z := ⟨_, rfl⟩
            have HKS := hide hKS
            clear hKS
            rw [HNK.out] at HHS HKL
            rw [HKS.out] at HHS
            obtain ⟨a0, a1, a2, af, al⟩ := a_18.out
            go_wp2_with fail
            clear a0 a1 a2 af al
            refine (CrewsAt_impl DC DA DB ND x2 0 _ _ _ D1_18.out (Nat.le_refl _) HPFD.out).mono ?_
            rintro e v19 ⟨st, rfl, ho, hb⟩
            rw [HCA.out]
            rw [HNK.out, HKS.out] at ho
            have HB_20 := hide (HB_18.out.bel hb)
            clear HB_18
            have C1_20 := hide (C1_18.out.bel hb)
            clear C1_18
            have TB_20 := hide (TB_18.out.bel hb)
            clear TB_18
            have L2_20 := hide (L2_18.out.bel hb)
            clear L2_18
            have a_20 := hide (a_18.out.bel hb)
            clear a_18
            have D1_20 := hide (D1_18.out.bel hb)
            clear D1_18
            have D2_20 := hide (D2_18.out.bel hb)
            clear D2_18
            obtain ⟨K1, ck1, rfl, _, _⟩ := id ho.sl.open_
            have K1_s : Hid (SlW v19 1 (.slice K1 NK ck1) NK (sC KS)) := SlW.of ho.sl (Nat.le_refl _)
            clear ho hb
            obtain ⟨a0, a1, a2, af, al⟩ := a_20.out
            go_wp2_with fail
            clear a0 a1 a2 af al
            refine (CrewsAt_spec DC DA DB ND x2 0 _ _ _ D2_20.out (Nat.le_refl _) HPFD.out).mono ?_
            rintro e v21 ⟨st, rfl, ho, hb⟩
            rw [HCA.out]
            rw [HNK.out, HKS.out] at ho
            have HB_22 := hide (HB_20.out.bel hb)
            clear HB_20
            have C1_22 := hide (C1_20.out.bel hb)
            clear C1_20
            have TB_22 := hide (TB_20.out.bel hb)
            clear TB_20
            have L2_22 := hide (L2_20.out.bel hb)
            clear L2_20
            have a_22 := hide (a_20.out.bel hb)
            clear a_20
            have D1_22 := hide (D1_20.out.bel hb)
            clear D1_20
            have D2_22 := hide (D2_20.out.bel hb)
            clear D2_20
            have K1_22 := hide (K1_s.out.bel hb)
            clear K1_s
            obtain ⟨K2, ck2, rfl, _, _⟩ := id ho.sl.open_
            have K2_s : Hid (SlW v21 1 (.slice K2 NK ck2) NK (sC KS)) := SlW.of ho.sl (Nat.le_refl _)
            clear ho hb
            obtain ⟨a0, a1, a2, af, al⟩ := a_22.out
            go_wp2_with fail
            clear a0 a1 a2 af al
            refine (WorkedBy_spec c2 a2 b2 n2 s2 9999 0 _ _ _ L2_22.out (Nat.le_refl _) HPF2.out HS2.out).mono ?_
            rintro e v23 ⟨rfl, hb⟩
            rw [HWB.out, HAK1.out]
            have HB_24 := hide (HB_22.out.bel hb)
            clear HB_22
            have C1_24 := hide (C1_22.out.bel hb)
            clear C1_22
            have TB_24 := hide (TB_22.out.bel hb)
            clear TB_22
            have L2_24 := hide (L2_22.out.bel hb)
            clear L2_22
            have a_24 := hide (a_22.out.bel hb)
            clear a_22
            have D1_24 := hide (D1_22.out.bel hb)
            clear D1_22
            have D2_24 := hide (D2_22.out.bel hb)
            clear D2_22
            have K1_24 := hide (K1_22.out.bel hb)
            clear K1_22
            have K2_24 := hide (K2_s.out.bel hb)
            clear K2_s
            clear hb
            obtain ⟨a0, a1, a2, af, al⟩ := a_24.out
            go_wp2_with fail
            clear a0 a1 a2 af al
            refine (WorkedBy_impl DC DA DB ND s2 9999 0 _ _ _ D1_24.out (Nat.le_refl _) HPFD.out HS2.out).mono ?_
            rintro e v25 ⟨rfl, hb⟩
            rw [HWD.out, HAK2.out]
            have HB_26 := hide (HB_24.out.bel hb)
            clear HB_24
            have C1_26 := hide (C1_24.out.bel hb)
            clear C1_24
            have TB_26 := hide (TB_24.out.bel hb)
            clear TB_24
            have L2_26 := hide (L2_24.out.bel hb)
            clear L2_24
            have a_26 := hide (a_24.out.bel hb)
            clear a_24
            have D1_26 := hide (D1_24.out.bel hb)
            clear D1_24
            have D2_26 := hide (D2_24.out.bel hb)
            clear D2_24
            have K1_26 := hide (K1_24.out.bel hb)
            clear K1_24
            have K2_26 := hide (K2_24.out.bel hb)
            clear K2_24
            clear hb
            go_wp2_with fail
            refine (pSameTexts_same KS NK 0 _ 0 _ _ _ _ K1_26.out K2_26.out (Nat.le_refl _) (Nat.le_refl _) (by have := HKL.out; omega)).mono ?_
            rintro e v27 ⟨rfl, hb⟩
            have HB_28 := hide (HB_26.out.bel hb)
            clear HB_26
            have C1_28 := hide (C1_26.out.bel hb)
            clear C1_26
            have TB_28 := hide (TB_26.out.bel hb)
            clear TB_26
            have L2_28 := hide (L2_26.out.bel hb)
            clear L2_26
            have a_28 := hide (a_26.out.bel hb)
            clear a_26
            have D1_28 := hide (D1_26.out.bel hb)
            clear D1_26
            have D2_28 := hide (D2_26.out.bel hb)
            clear D2_26
            have K1_28 := hide (K1_26.out.bel hb)
            clear K1_26
            have K2_28 := hide (K2_26.out.bel hb)
            clear K2_26
            clear hb
            obtain ⟨a0, a1, a2, af, al⟩ := a_28.out
            go_wp2_with fail
            clear a0 a1 a2 af al
            refine (pHas_any KS s2 NK 0 _ _ _ K2_28.out (Nat.le_refl _) HKL.out).mono ?_
            rintro e v29 ⟨rfl, hb⟩
            rw [HHS.out]
            have HB_30 := hide (HB_28.out.bel hb)
            clear HB_28
            have C1_30 := hide (C1_28.out.bel hb)
            clear C1_28
            have TB_30 := hide (TB_28.out.bel hb)
            clear TB_28
            have L2_30 := hide (L2_28.out.bel hb)
            clear L2_28
            have a_30 := hide (a_28.out.bel hb)
            clear a_28
            have D1_30 := hide (D1_28.out.bel hb)
            clear D1_28
            have D2_30 := hide (D2_28.out.bel hb)
            clear D2_28
            have K1_30 := hide (K1_28.out.bel hb)
            clear K1_28
            have K2_30 := hide (K2_28.out.bel hb)
            clear K2_28
            clear hb
            obtain ⟨e1, e2, e3, e4, e5, e6⟩ := HZB.out
            have z1 : IntKind.i64.wrap (wb + y2) = wb + y2 := IntWalk.i64_in _ (by omega)
            have z2 : IntKind.i64.wrap (wb + y2 - x2) = wb + (y2 - x2) := by rw [IntWalk.i64_in _ (by omega)]; omega
            clear e1 e2 e3 e4 e5 e6
            obtain ⟨a0, a1, a2, af, al⟩ := a_30.out
            go_wp2_with fail
            clear a0 a1 a2 af al
            go_meet
            case rel => exact ⟨HB_30, C1_30, TB_30, L2_30, a_30, D1_30, D2_30⟩
        case rest => as_aux_lemma =>
          obtain ⟨HB_19, C1_19, TB_19, L2_19, a_19, D1_19, D2_19⟩ := hcut
          clear L2_19
          clear a_19
          clear D1_19
          clear D2_19
          go_wp2_with fail
          refine (DrawCrewsAt_any _ _ C1_19.out).mono ?_
          rintro e v20 ⟨u3, n3, c3, a3, b3, x3, rfl, hn, hcs, hl, hb⟩
          have HB_21 := hide (HB_19.out.bel hb)
          clear HB_19
          have C1_21 := hide (C1_19.out.bel hb)
          clear C1_19
          have TB_21 := hide (TB_19.out.bel hb)
          clear TB_19
          obtain ⟨A3, k3, rfl, _, _⟩ := id hl.open_
          have L3_s : Hid (SlW v20 3 (.slice A3 n3 k3) n3 (siiC c3 a3 b3)) := SlW.of hl (Nat.le_refl _)
          have HPF3 : Hid (pfits c3 n3) := ⟨by omega, fun i hi => by have := hcs i hi; unfold maxLen; omega⟩
          have HN3 := hide hn
          have HC3 := hide hcs
          clear hl hn hcs hb
          obtain ⟨five, hfive⟩ : ∃ z, caOk c3 a3 b3 n3 x3 = z := ⟨_, rfl⟩
          have HFI := hide hfive
          clear hfive
          obtain ⟨NG, hNG⟩ : ∃ z, caN c3 a3 b3 n3 x3 = z := ⟨_, rfl⟩
          have HNG := hide hNG
          clear hNG
          obtain ⟨GS, hGS⟩ : ∃ z, caS c3 a3 b3 n3 x3 = z := ⟨_, rfl⟩
          have HGS := hide hGS
          clear hGS
          have HNGL : Hid (NG ≤ 1048576) := by show NG ≤ _; rw [← HNG.out]; exact caN_le
          go_wp2_with fail
          refine (CrewsAt_impl c3 a3 b3 n3 x3 0 _ _ _ L3_s.out (Nat.le_refl _) HPF3.out).mono ?_
          rintro e v22 ⟨st, rfl, ho, hb⟩
          rw [HFI.out]
          rw [HNG.out, HGS.out] at ho
          have HB_23 := hide (HB_21.out.bel hb)
          clear HB_21
          have C1_23 := hide (C1_21.out.bel hb)
          clear C1_21
          have TB_23 := hide (TB_21.out.bel hb)
          clear TB_21
          have L3_23 := hide (L3_s.out.bel hb)
          clear L3_s
          obtain ⟨G1, kg1, rfl, _, _⟩ := id ho.sl.open_
          have G1_s : Hid (SlW v22 1 (.slice G1 NG kg1) NG (sC GS)) := SlW.of ho.sl (Nat.le_refl _)
          clear ho hb
          go_wp2_with fail
          refine (CrewsAt_spec c3 a3 b3 n3 x3 0 _ _ _ L3_23.out (Nat.le_refl _) HPF3.out).mono ?_
          rintro e v24 ⟨st, rfl, ho, hb⟩
          rw [HFI.out]
          rw [HNG.out, HGS.out] at ho
          have HB_25 := hide (HB_23.out.bel hb)
          clear HB_23
          have C1_25 := hide (C1_23.out.bel hb)
          clear C1_23
          have TB_25 := hide (TB_23.out.bel hb)
          clear TB_23
          have L3_25 := hide (L3_23.out.bel hb)
          clear L3_23
          have G1_25 := hide (G1_s.out.bel hb)
          clear G1_s
          obtain ⟨G2, kg2, rfl, _, _⟩ := id ho.sl.open_
          have G2_s : Hid (SlW v24 1 (.slice G2 NG kg2) NG (sC GS)) := SlW.of ho.sl (Nat.le_refl _)
          clear ho hb
          clear L3_25
          go_wp2_with fail
          refine (DrawPeriodsText_any _ _ C1_25.out).mono ?_
          rintro e v26 ⟨u4, n4, c4, a4, b4, rfl, hn, hcs, hl, hb⟩
          have HB_27 := hide (HB_25.out.bel hb)
          clear HB_25
          have C1_27 := hide (C1_25.out.bel hb)
          clear C1_25
          have TB_27 := hide (TB_25.out.bel hb)
          clear TB_25
          have G1_27 := hide (G1_25.out.bel hb)
          clear G1_25
          have G2_27 := hide (G2_s.out.bel hb)
          clear G2_s
          obtain ⟨A4, k4, rfl, _, _⟩ := id hl.open_
          have L4_s : Hid (SlW v26 3 (.slice A4 n4 k4) n4 (siiC c4 a4 b4)) := SlW.of hl (Nat.le_refl _)
          have HPF4 : Hid (pfits c4 n4) := ⟨by omega, fun i hi => by have := hcs i hi; unfold maxLen; omega⟩
          have HN4 := hide hn
          have HC4 := hide hcs
          clear hl hn hcs hb
          clear C1_27
          obtain ⟨tx, htx⟩ : ∃ z, ptS c4 a4 b4 n4 = z := ⟨_, rfl⟩
          have HTX := hide htx
          clear htx
          obtain ⟨sv, hsv⟩ : ∃ z, pdB c4 a4 b4 n4 = z := ⟨_, rfl⟩
          have HSV := hide hsv
          clear hsv
          go_wp2_with fail
          refine (PeriodsText_impl c4 a4 b4 n4  0 _ _ _ L4_s.out (Nat.le_refl _) HPF4.out TB_27.out).mono ?_
          rintro e v28 ⟨rfl, hb⟩
          rw [HTX.out, HSV.out]
          have HB_29 := hide (HB_27.out.bel hb)
          clear HB_27
          have TB_29 := hide (TB_27.out.bel hb)
          clear TB_27
          have G1_29 := hide (G1_27.out.bel hb)
          clear G1_27
          have G2_29 := hide (G2_27.out.bel hb)
          clear G2_27
          have L4_29 := hide (L4_s.out.bel hb)
          clear L4_s
          clear hb
          go_wp2_with fail
          refine (PeriodsText_spec c4 a4 b4 n4  0 _ _ _ L4_29.out (Nat.le_refl _) HPF4.out).mono ?_
          rintro e v30 ⟨rfl, hb⟩
          rw [HTX.out, HSV.out]
          have HB_31 := hide (HB_29.out.bel hb)
          clear HB_29
          have TB_31 := hide (TB_29.out.bel hb)
          clear TB_29
          have G1_31 := hide (G1_29.out.bel hb)
          clear G1_29
          have G2_31 := hide (G2_29.out.bel hb)
          clear G2_29
          have L4_31 := hide (L4_29.out.bel hb)
          clear L4_29
          clear hb
          go_wp2_with fail
          refine (pSameTexts_same GS NG 0 _ 0 _ _ _ _ G1_31.out G2_31.out (Nat.le_refl _) (Nat.le_refl _) (by have := HNGL.out; omega)).mono ?_
          rintro e v32 ⟨rfl, hb⟩
          have HB_33 := hide (HB_31.out.bel hb)
          clear HB_31
          have TB_33 := hide (TB_31.out.bel hb)
          clear TB_31
          have G1_33 := hide (G1_31.out.bel hb)
          clear G1_31
          have G2_33 := hide (G2_31.out.bel hb)
          clear G2_31
          have L4_33 := hide (L4_31.out.bel hb)
          clear L4_31
          clear hb
          go_wp2_with fail
          refine (ArePeriods_impl c4 a4 b4 n4  0 _ _ _ L4_33.out (Nat.le_refl _) HPF4.out).mono ?_
          rintro e v34 ⟨rfl, hb⟩
          rw [HSV.out]
          have HB_35 := hide (HB_33.out.bel hb)
          clear HB_33
          have TB_35 := hide (TB_33.out.bel hb)
          clear TB_33
          have G1_35 := hide (G1_33.out.bel hb)
          clear G1_33
          have G2_35 := hide (G2_33.out.bel hb)
          clear G2_33
          have L4_35 := hide (L4_33.out.bel hb)
          clear L4_33
          clear hb
          go_wp2_with fail
          go_ret
          exact ⟨ret_bool (by simp), HB_35.out⟩

set_option maxRecDepth 100000 in
theorem FnReliefs_lifted (os : Os) (started : os.Started) (H : Type) (enc : TypeId × Value → H) :
    ReturnsInHanded {} Tryz.checked os 3 .any (fun w args => (Rows.fnReliefsSpec.pre enc Tryz.prog Tryz.f3 Rows.fnReliefsRow.domain false w args ∧ laidMetH Tryz.prog Rows.fnReliefsRow.laid w) ∧ sizedMet enc Tryz.prog Tryz.f3 (OpenSpec.ofChange Rows.fnReliefsSpec) false w args) (Rows.fnReliefsSpec.post enc Tryz.prog Tryz.f3 false true false false) := by
  refine returnsInHanded_of_change_and (C := Tryz.checked) (X := fun w _ => laidMetH Tryz.prog Rows.fnReliefsRow.laid w) (fun _ _ _ hh h => h.of_heap hh) Tryz.own started (by kernel_rfl) Tryz.func3
    (ChangeSpec.witness_shaped (enc := enc) (C := Tryz.checked) (os := os) (X := fun w _ => laidMetH Tryz.prog Rows.fnReliefsRow.laid w) false (World.laidAll Tryz.prog os Rows.fnReliefsRow.laid) #[.slice none 0 0, .slice none 0 0] 8 (World.laidAll_os _ _ _)
      (World.shaped_of_ZipB (by kernel_rfl) (by kernel_rfl)) (by kernel_rfl) (by kernel_rfl) (by kernel_rfl)
      (by rw [MakeChecks.laidMetH_plain _ _ _ (by kernel_rfl)]; exact laidMet_laidAll _ (by kernel_rfl) (by kernel_rfl))) ?_
  intro W base args ds gs before hval0 hW _ hsz hL _
  have hval : ∀ (j : Nat) t v, Tryz.f3.params[j]? = some t → args[j]? = some v → Value.okWide Tryz.prog W .any base t v := hval0
  have hW' := hW
  obtain ⟨p, q, hA0, hV, rfl, hfz, hnd⟩ := hW
  have hA : DataW.TrodAll enc Tryz.prog W 0 (fun _ => true) true Tryz.f3.params.toList args.toList ds p := hA0
  rw [Tryz.params3] at hA hval
  obtain ⟨v0, vs0, d0, ds0, p0, q0, hargs, rfl, rfl, h0, r0⟩ := trodAll_cons hA
  obtain ⟨v1, vs1, d1, ds1, p1, q1, rfl, rfl, rfl, h1, r1⟩ := trodAll_cons r0
  obtain ⟨rfl, rfl, rfl⟩ := trodAll_nil r1
  obtain rfl : args = #[v0, v1] := by cases args; simp_all
  obtain ⟨rfl, rfl⟩ := trodVars_none hV
  have hend : ∀ W', Below W.heap.size W W' → Rows.fnReliefsSpec.post enc Tryz.prog Tryz.f3 false true false false W #[v0, v1] (.bool true) W' := fun W' hb =>
    law_post (T := 4) Tryz.laidOut rfl (by kernel_rfl) rfl Tryz.underlying4 hW' rfl hb
  clear hW' hA0 hval0
  obtain ⟨A, n, cap, rfl, hk0, hm0, hA0⟩ := openByte (hval 0 _ v0 rfl rfl) h0
  obtain ⟨B, mm, capB, rfl, hk1, hm1, hA1⟩ := openByte (hval 1 _ v1 rfl rfl) h1
  refine (FnReliefs_walk A n cap B mm capB W hA0 hA1 (tab_of_laid hL)).mono fun e W' ⟨he, hb⟩ => ?_
  subst he
  exact ⟨_, rfl, hend W' hb⟩
/-- The statement. -/
theorem FnReliefs_holds : Rows.FnReliefsSaid :=
  OpenClaim.holds_of_wide 3 Tryz.f3 rfl rfl rfl rfl rfl rfl rfl ⟨rfl, rfl, rfl, rfl, rfl⟩ rfl rfl rfl rfl rfl (by kernel_rfl) Tryz.func3 (show joinedFacts Tryz.prog 3 Tryz.f3 Rows.fnReliefsSpec Rows.fnReliefsRow = true from by unfold joinedFacts; rw [Tryz.heard, Tryz.enters, Tryz.lifts, Tryz.laidOut, Tryz.rowed, Tryz.made]; kernel_rfl)
    (of_decide_eq_true (by kernel_rfl)) (by unfold Func.isWrapper; first | (rw [if_pos (by decide +kernel)]; kernel_rfl) | (rw [if_neg (by decide +kernel)]; exact ⟨rfl, rfl⟩))
    (fun os started H enc _ => FnReliefs_lifted os started H enc)
#print axioms FnReliefs_holds
/-- The tied card. -/
theorem FnReliefs_card : Rows.FnReliefsCardSaid :=
  Claim7.holds_tied_plain_at .later [] [.data, .data, .data] true (true, "726e088766344e0ef60f6d94815a75c5e7821cfa5ca2f4ee28aba11135bfb0fd") false FnReliefs_holds (fun _ h => by cases h) (by kernel_rfl) (fun _ h => by cases h) fnReliefs_row_tie rfl ⟨rfl, rfl⟩ Tryz.mainIs0 rfl
    (fun f fn hf hfn => by
      obtain rfl : f = 3 := Option.some.inj ((show Tryz.prog.funcNamed "loop.example/g01020/laws.FnReliefs" = some 3 by kernel_rfl).symm.trans hf) |>.symm
      obtain rfl : fn = Tryz.f3 := (Option.some.inj (Tryz.func3.symm.trans hfn)).symm
      exact ⟨Tryz.looks0, fun j t ht => by
        have hall : (Tryz.f3.params.toList.all fun u => !Tryz.prog.wantsStandIn u) = true := by kernel_rfl
        have hm : t ∈ Tryz.f3.params.toList := by simpa using Array.mem_of_getElem? ht
        exact (show Tryz.prog.wantsStandIn t = false by simpa using List.all_eq_true.1 hall t hm)⟩)
    (by kernel_rfl)
#print axioms FnReliefs_card
end Go.Proofs.YtnmmkechkcfjnaaGreatDoor
