/-
  FnSearches: the law returns true at every input. No condition.
-/
import Derived.Test.YtpckhpkbdanjoaaDoorQ21
import Derived.Test.YtpckhpkbdanjoaaDoorTie
import Derived.Lay
import Derived.LaidMore
import Derived.SevenTiedAt
import Derived.Stop.Joined
import Derived.Deep.Cut
import Derived.Deep.CutRange
namespace Go.Proofs.YtpckhpkbdanjoaaDoor
set_option linter.unusedVariables false
set_option linter.unusedSimpArgs false
open Go.ChangeShapes Go.WideShapes Go.ChangeAt Go.RowKit Go.Joins Go.Deep

set_option maxRecDepth 100000 in
set_option maxHeartbeats 12800000 in
theorem FnSearches_walk (A : Option Addr) (n cap : Nat) (B : Option Addr) (mm capB : Nat) (w : World) (hc : Code w (.slice A n cap)) (hm : Code w (.slice B mm capB)) :
    Calls Tryd.prog 8 #[.slice A n cap, .slice B mm capB] w fun e w' => e = .returned (.bool true) ∧ Below w.heap.size w w' := by
  go_enter Tryd.func8, Tryd.ntmps8
  go_wp2_with fail
  · go_ret
    exact ⟨rfl, Below.refl _ _⟩
  have HB_0 : Hid (BelW w w) := Below.refl _ _
  have C1_0 := hide hm
  refine (DrawHandWay_any _ _ hc).mono ?_
  rintro e v1 ⟨u, n1, F, r, c, lf, rfl, hs, hff, hb⟩
  have HB_2 := hide (HB_0.out.bel hb)
  clear HB_0
  have C1_2 := hide (C1_0.out.bel hb)
  clear C1_0
  obtain ⟨Au, cu, rfl, _, _⟩ := id hs.open_
  have FL_s : Hid (SlW v1 1 (.slice Au n1 cu) n1 (sC F)) := SlW.of hs (Nat.le_refl _)
  have HFF := hide hff
  clear hs hb hff
  go_wp2_with fail
  obtain ⟨v3, hW⟩ : ∃ W, W = v1.alloc (.cells #[.int .i64 r, .int .i64 c] 38) := ⟨_, rfl⟩
  obtain ⟨ab, hab⟩ : ∃ z, z = v1.heap.size := ⟨_, rfl⟩
  have HN : Hid (BxI v3 ab r c) := by show BxI _ _ _ _; rw [hW, hab]; exact BxI.new _ _ _ _
  have hb : Below v1.heap.size v1 v3 := by rw [hW]; exact (Below.refl _ _).alloc (Nat.le_refl _) _
  rw [← hW, ← hab]
  clear hW hab
  have HB_4 := hide (HB_2.out.bel hb)
  clear HB_2
  have C1_4 := hide (C1_2.out.bel hb)
  clear C1_2
  have FL_4 := hide (FL_s.out.bel hb)
  clear FL_s
  clear hb
  have Ha_4 := HN
  clear HN
  obtain ⟨ok, hok⟩ : ∃ z, sfOk F n1 r c = z := ⟨_, rfl⟩
  have HOK := hide hok
  clear hok
  obtain ⟨NH, hNH⟩ : ∃ z, hwN F n1 r c lf = z := ⟨_, rfl⟩
  have HNH := hide hNH
  clear hNH
  obtain ⟨HR, hHR⟩ : ∃ z, hwRf F n1 r c lf = z := ⟨_, rfl⟩
  have HHR := hide hHR
  clear hHR
  obtain ⟨HC, hHC⟩ : ∃ z, hwCf F n1 r c lf = z := ⟨_, rfl⟩
  have HHC := hide hHC
  clear hHC
  obtain ⟨NU, hNU⟩ : ∃ z, unN F n1 r c lf = z := ⟨_, rfl⟩
  have HNU := hide hNU
  clear hNU
  obtain ⟨UR, hUR⟩ : ∃ z, unR F n1 r c lf = z := ⟨_, rfl⟩
  have HUR := hide hUR
  clear hUR
  obtain ⟨UC, hUC⟩ : ∃ z, unC F n1 r c lf = z := ⟨_, rfl⟩
  have HUC := hide hUC
  clear hUC
  have HN1 : Hid (NH ≤ 1048576) := by show NH ≤ _; rw [← HNH.out]; exact hwN_le
  have HN2 : Hid (NU ≤ 1048576) := by show NU ≤ _; rw [← HNU.out]; exact unN_le
  refine (HandWay_impl F n1 r c lf 0 _ _ _ FL_4.out (Nat.le_refl _) HFF.out).mono ?_
  rintro e v5 ⟨st, rfl, ho, hb⟩
  rw [HOK.out]
  rw [HNH.out, HHR.out, HHC.out] at ho
  have HB_6 := hide (HB_4.out.bel hb)
  clear HB_4
  have C1_6 := hide (C1_4.out.bel hb)
  clear C1_4
  have FL_6 := hide (FL_4.out.bel hb)
  clear FL_4
  have a_6 := hide (Ha_4.out.bel hb)
  clear Ha_4
  obtain ⟨H1, ch1, rfl, _, _⟩ := id ho.sl.open_
  have H1_s : Hid (SlW v5 2 (.slice H1 NH ch1) NH (iiC HR HC)) := SlW.of ho.sl (Nat.le_refl _)
  clear ho hb
  obtain ⟨a0, a1, af, al⟩ := a_6.out
  go_wp2_with fail
  clear a0 a1 af al
  refine (HandWay_spec F n1 r c lf 0 _ _ _ FL_6.out (Nat.le_refl _) HFF.out).mono ?_
  rintro e v7 ⟨st, rfl, ho, hb⟩
  rw [HOK.out]
  rw [HNH.out, HHR.out, HHC.out] at ho
  have HB_8 := hide (HB_6.out.bel hb)
  clear HB_6
  have C1_8 := hide (C1_6.out.bel hb)
  clear C1_6
  have FL_8 := hide (FL_6.out.bel hb)
  clear FL_6
  have a_8 := hide (a_6.out.bel hb)
  clear a_6
  have H1_8 := hide (H1_s.out.bel hb)
  clear H1_s
  obtain ⟨H2, ch2, rfl, _, _⟩ := id ho.sl.open_
  have H2_s : Hid (SlW v7 2 (.slice H2 NH ch2) NH (iiC HR HC)) := SlW.of ho.sl (Nat.le_refl _)
  clear ho hb
  obtain ⟨a0, a1, af, al⟩ := a_8.out
  go_wp2_with fail
  clear a0 a1 af al
  refine (UnsearchedCells_impl F n1 r c lf 0 _ _ _ FL_8.out (Nat.le_refl _) HFF.out).mono ?_
  rintro e v9 ⟨st, rfl, ho, hb⟩
  rw [HOK.out]
  rw [HNU.out, HUR.out, HUC.out] at ho
  have HB_10 := hide (HB_8.out.bel hb)
  clear HB_8
  have C1_10 := hide (C1_8.out.bel hb)
  clear C1_8
  have FL_10 := hide (FL_8.out.bel hb)
  clear FL_8
  have a_10 := hide (a_8.out.bel hb)
  clear a_8
  have H1_10 := hide (H1_8.out.bel hb)
  clear H1_8
  have H2_10 := hide (H2_s.out.bel hb)
  clear H2_s
  obtain ⟨U1, cu1, rfl, _, _⟩ := id ho.sl.open_
  have U1_s : Hid (SlW v9 2 (.slice U1 NU cu1) NU (iiC UR UC)) := SlW.of ho.sl (Nat.le_refl _)
  clear ho hb
  obtain ⟨a0, a1, af, al⟩ := a_10.out
  go_wp2_with fail
  clear a0 a1 af al
  refine (UnsearchedCells_spec F n1 r c lf 0 _ _ _ FL_10.out (Nat.le_refl _) HFF.out).mono ?_
  rintro e v11 ⟨st, rfl, ho, hb⟩
  rw [HOK.out]
  rw [HNU.out, HUR.out, HUC.out] at ho
  have HB_12 := hide (HB_10.out.bel hb)
  clear HB_10
  have C1_12 := hide (C1_10.out.bel hb)
  clear C1_10
  have FL_12 := hide (FL_10.out.bel hb)
  clear FL_10
  have a_12 := hide (a_10.out.bel hb)
  clear a_10
  have H1_12 := hide (H1_10.out.bel hb)
  clear H1_10
  have H2_12 := hide (H2_10.out.bel hb)
  clear H2_10
  have U1_12 := hide (U1_s.out.bel hb)
  clear U1_s
  obtain ⟨U2, cu2, rfl, _, _⟩ := id ho.sl.open_
  have U2_s : Hid (SlW v11 2 (.slice U2 NU cu2) NU (iiC UR UC)) := SlW.of ho.sl (Nat.le_refl _)
  clear ho hb
  go_wp2_with fail
  refine (DrawSearchedCells_any _ _ C1_12.out).mono ?_
  rintro e v13 ⟨u2, n2, F2, t2, m3, p3, q3, rfl, hmm, hl, hs, hf2, hb⟩
  have HB_14 := hide (HB_12.out.bel hb)
  clear HB_12
  have C1_14 := hide (C1_12.out.bel hb)
  clear C1_12
  have FL_14 := hide (FL_12.out.bel hb)
  clear FL_12
  have a_14 := hide (a_12.out.bel hb)
  clear a_12
  have H1_14 := hide (H1_12.out.bel hb)
  clear H1_12
  have H2_14 := hide (H2_12.out.bel hb)
  clear H2_12
  have U1_14 := hide (U1_12.out.bel hb)
  clear U1_12
  have U2_14 := hide (U2_s.out.bel hb)
  clear U2_s
  obtain ⟨A2, c2, rfl, _, _⟩ := id hs.open_
  obtain ⟨A3, c3, rfl, _, _⟩ := id hl.open_
  have FV_s : Hid (SlW v13 1 (.slice A2 n2 c2) n2 (sC F2)) := SlW.of hs (Nat.le_refl _)
  have LI_s : Hid (SlW v13 2 (.slice A3 m3 c3) m3 (iiC p3 q3)) := SlW.of hl (Nat.le_refl _)
  have HF2 := hide hf2
  have HM3 := hide hmm
  clear hs hl hf2 hmm hb
  obtain ⟨so, hso⟩ : ∃ z, seOk F2 n2 p3 q3 m3 = z := ⟨_, rfl⟩
  have HSO := hide hso
  clear hso
  obtain ⟨NS, hNS⟩ : ∃ z, seN F2 n2 p3 q3 m3 = z := ⟨_, rfl⟩
  have HNS := hide hNS
  clear hNS
  obtain ⟨SR, hSR⟩ : ∃ z, seR F2 n2 p3 q3 m3 = z := ⟨_, rfl⟩
  have HSR := hide hSR
  clear hSR
  obtain ⟨SC, hSC⟩ : ∃ z, seC F2 n2 p3 q3 m3 = z := ⟨_, rfl⟩
  have HSC := hide hSC
  clear hSC
  go_wp2_with fail
  refine (SearchedCells_impl F2 n2 p3 q3 m3 0 _ _ 0 _ _ _ FV_s.out (Nat.le_refl _) LI_s.out (Nat.le_refl _) HF2.out).mono ?_
  rintro e v15 ⟨st, rfl, ho, hb⟩
  rw [HSO.out]
  rw [HNS.out, HSR.out, HSC.out] at ho
  have HB_16 := hide (HB_14.out.bel hb)
  clear HB_14
  have C1_16 := hide (C1_14.out.bel hb)
  clear C1_14
  have FL_16 := hide (FL_14.out.bel hb)
  clear FL_14
  have a_16 := hide (a_14.out.bel hb)
  clear a_14
  have H1_16 := hide (H1_14.out.bel hb)
  clear H1_14
  have H2_16 := hide (H2_14.out.bel hb)
  clear H2_14
  have U1_16 := hide (U1_14.out.bel hb)
  clear U1_14
  have U2_16 := hide (U2_14.out.bel hb)
  clear U2_14
  have FV_16 := hide (FV_s.out.bel hb)
  clear FV_s
  have LI_16 := hide (LI_s.out.bel hb)
  clear LI_s
  obtain ⟨S1, cs1, rfl, _, _⟩ := id ho.sl.open_
  have S1_s : Hid (SlW v15 2 (.slice S1 NS cs1) NS (iiC SR SC)) := SlW.of ho.sl (Nat.le_refl _)
  clear ho hb
  go_wp2_with fail
  refine (SearchedCells_spec F2 n2 p3 q3 m3 0 _ _ 0 _ _ _ FV_16.out (Nat.le_refl _) LI_16.out (Nat.le_refl _) HF2.out).mono ?_
  rintro e v17 ⟨st, rfl, ho, hb⟩
  rw [HSO.out]
  rw [HNS.out, HSR.out, HSC.out] at ho
  have HB_18 := hide (HB_16.out.bel hb)
  clear HB_16
  have C1_18 := hide (C1_16.out.bel hb)
  clear C1_16
  have FL_18 := hide (FL_16.out.bel hb)
  clear FL_16
  have a_18 := hide (a_16.out.bel hb)
  clear a_16
  have H1_18 := hide (H1_16.out.bel hb)
  clear H1_16
  have H2_18 := hide (H2_16.out.bel hb)
  clear H2_16
  have U1_18 := hide (U1_16.out.bel hb)
  clear U1_16
  have U2_18 := hide (U2_16.out.bel hb)
  clear U2_16
  have FV_18 := hide (FV_16.out.bel hb)
  clear FV_16
  have LI_18 := hide (LI_16.out.bel hb)
  clear LI_16
  have S1_18 := hide (S1_s.out.bel hb)
  clear S1_s
  obtain ⟨S2, cs2, rfl, _, _⟩ := id ho.sl.open_
  have S2_s : Hid (SlW v17 2 (.slice S2 NS cs2) NS (iiC SR SC)) := SlW.of ho.sl (Nat.le_refl _)
  clear ho hb
  go_wp2_with fail
  refine (DrawShareOut_any _ _ C1_18.out).mono ?_
  rintro e v19 ⟨u2, n4, F4, t2, m5, p5, q5, rfl, hmm, hl, hs, hf2, hb⟩
  have HB_20 := hide (HB_18.out.bel hb)
  clear HB_18
  have C1_20 := hide (C1_18.out.bel hb)
  clear C1_18
  have FL_20 := hide (FL_18.out.bel hb)
  clear FL_18
  have a_20 := hide (a_18.out.bel hb)
  clear a_18
  have H1_20 := hide (H1_18.out.bel hb)
  clear H1_18
  have H2_20 := hide (H2_18.out.bel hb)
  clear H2_18
  have U1_20 := hide (U1_18.out.bel hb)
  clear U1_18
  have U2_20 := hide (U2_18.out.bel hb)
  clear U2_18
  have FV_20 := hide (FV_18.out.bel hb)
  clear FV_18
  have LI_20 := hide (LI_18.out.bel hb)
  clear LI_18
  have S1_20 := hide (S1_18.out.bel hb)
  clear S1_18
  have S2_20 := hide (S2_s.out.bel hb)
  clear S2_s
  obtain ⟨A4, c4, rfl, _, _⟩ := id hs.open_
  obtain ⟨A5, c5, rfl, _, _⟩ := id hl.open_
  have FX_s : Hid (SlW v19 1 (.slice A4 n4 c4) n4 (sC F4)) := SlW.of hs (Nat.le_refl _)
  have ST_s : Hid (SlW v19 2 (.slice A5 m5 c5) m5 (iiC p5 q5)) := SlW.of hl (Nat.le_refl _)
  have HF4 := hide hf2
  have HM5 := hide hmm
  clear hs hl hf2 hmm hb
  clear C1_20
  obtain ⟨sh, hsh⟩ : ∃ z, shOk F4 n4 p5 q5 m5 = z := ⟨_, rfl⟩
  have HSH := hide hsh
  clear hsh
  obtain ⟨NO, hNO⟩ : ∃ z, shN F4 n4 p5 q5 m5 = z := ⟨_, rfl⟩
  have HNO := hide hNO
  clear hNO
  obtain ⟨OT, hOT⟩ : ∃ z, shT F4 n4 p5 q5 m5 = z := ⟨_, rfl⟩
  have HOT := hide hOT
  clear hOT
  go_wp2_with fail
  refine (ShareOut_impl F4 n4 p5 q5 m5 0 _ _ 0 _ _ _ FX_s.out (Nat.le_refl _) ST_s.out (Nat.le_refl _) HF4.out).mono ?_
  rintro e v21 ⟨st, rfl, ho, hb⟩
  rw [HSH.out]
  rw [HNO.out, HOT.out] at ho
  have HB_22 := hide (HB_20.out.bel hb)
  clear HB_20
  have FL_22 := hide (FL_20.out.bel hb)
  clear FL_20
  have a_22 := hide (a_20.out.bel hb)
  clear a_20
  have H1_22 := hide (H1_20.out.bel hb)
  clear H1_20
  have H2_22 := hide (H2_20.out.bel hb)
  clear H2_20
  have U1_22 := hide (U1_20.out.bel hb)
  clear U1_20
  have U2_22 := hide (U2_20.out.bel hb)
  clear U2_20
  have FV_22 := hide (FV_20.out.bel hb)
  clear FV_20
  have LI_22 := hide (LI_20.out.bel hb)
  clear LI_20
  have S1_22 := hide (S1_20.out.bel hb)
  clear S1_20
  have S2_22 := hide (S2_20.out.bel hb)
  clear S2_20
  have FX_22 := hide (FX_s.out.bel hb)
  clear FX_s
  have ST_22 := hide (ST_s.out.bel hb)
  clear ST_s
  obtain ⟨O1, co1, rfl, _, _⟩ := id ho.sl.open_
  have O1_s : Hid (SlW v21 1 (.slice O1 NO co1) NO (sC OT)) := SlW.of ho.sl (Nat.le_refl _)
  clear ho hb
  go_wp2_with fail
  refine (ShareOut_spec F4 n4 p5 q5 m5 0 _ _ 0 _ _ _ FX_22.out (Nat.le_refl _) ST_22.out (Nat.le_refl _) HF4.out).mono ?_
  rintro e v23 ⟨st, rfl, ho, hb⟩
  rw [HSH.out]
  rw [HNO.out, HOT.out] at ho
  have HB_24 := hide (HB_22.out.bel hb)
  clear HB_22
  have FL_24 := hide (FL_22.out.bel hb)
  clear FL_22
  have a_24 := hide (a_22.out.bel hb)
  clear a_22
  have H1_24 := hide (H1_22.out.bel hb)
  clear H1_22
  have H2_24 := hide (H2_22.out.bel hb)
  clear H2_22
  have U1_24 := hide (U1_22.out.bel hb)
  clear U1_22
  have U2_24 := hide (U2_22.out.bel hb)
  clear U2_22
  have FV_24 := hide (FV_22.out.bel hb)
  clear FV_22
  have LI_24 := hide (LI_22.out.bel hb)
  clear LI_22
  have S1_24 := hide (S1_22.out.bel hb)
  clear S1_22
  have S2_24 := hide (S2_22.out.bel hb)
  clear S2_22
  have FX_24 := hide (FX_22.out.bel hb)
  clear FX_22
  have ST_24 := hide (ST_22.out.bel hb)
  clear ST_22
  have O1_24 := hide (O1_s.out.bel hb)
  clear O1_s
  obtain ⟨O2, co2, rfl, _, _⟩ := id ho.sl.open_
  have O2_s : Hid (SlW v23 1 (.slice O2 NO co2) NO (sC OT)) := SlW.of ho.sl (Nat.le_refl _)
  clear ho hb
  have HN3 : Hid (NO ≤ 1048576) := by show NO ≤ _; rw [← HNO.out]; exact shN_le
  have HN4 : Hid (NS ≤ 1048576) := by
    show NS ≤ _
    rw [← HNS.out, seN]
    split
    · next h =>
      have h1 := flt_len (nrF F2 n2 p3 q3 m3) (n2 * (F2 0).size)
      have h2 := (fl_area (se_facts h).1).2
      omega
    · omega
  go_upto_region 14 with fail
  go_cut [173] from 127 to 173 (fun s wx => s = .bool false ∧ Hid (BelW w wx) ∧ Hid (SlW wx 1 (.slice Au n1 cu) n1 (sC F)) ∧ Hid (BxI wx ab r c) ∧ Hid (SlW wx 2 (.slice H1 NH ch1) NH (iiC HR HC)) ∧ Hid (SlW wx 2 (.slice H2 NH ch2) NH (iiC HR HC)) ∧ Hid (SlW wx 2 (.slice U1 NU cu1) NU (iiC UR UC)) ∧ Hid (SlW wx 2 (.slice U2 NU cu2) NU (iiC UR UC)) ∧ Hid (SlW wx 1 (.slice A2 n2 c2) n2 (sC F2)) ∧ Hid (SlW wx 2 (.slice A3 m3 c3) m3 (iiC p3 q3)) ∧ Hid (SlW wx 2 (.slice S1 NS cs1) NS (iiC SR SC)) ∧ Hid (SlW wx 2 (.slice S2 NS cs2) NS (iiC SR SC)) ∧ Hid (SlW wx 1 (.slice A4 n4 c4) n4 (sC F4)) ∧ Hid (SlW wx 2 (.slice A5 m5 c5) m5 (iiC p5 q5)) ∧ Hid (SlW wx 1 (.slice O1 NO co1) NO (sC OT)) ∧ Hid (SlW wx 1 (.slice O2 NO co2) NO (sC OT)))
  case first => as_aux_lemma =>
    go_wp2_with fail
    refine (qCells_same HR HC NH 0 _ 0 _ _ _ _ H1_24.out H2_24.out (Nat.le_refl _) (Nat.le_refl _) (by have := HN1.out; omega)).mono ?_
    rintro e v25 ⟨rfl, hb⟩
    have HB_26 := hide (HB_24.out.bel hb)
    clear HB_24
    have FL_26 := hide (FL_24.out.bel hb)
    clear FL_24
    have a_26 := hide (a_24.out.bel hb)
    clear a_24
    have H1_26 := hide (H1_24.out.bel hb)
    clear H1_24
    have H2_26 := hide (H2_24.out.bel hb)
    clear H2_24
    have U1_26 := hide (U1_24.out.bel hb)
    clear U1_24
    have U2_26 := hide (U2_24.out.bel hb)
    clear U2_24
    have FV_26 := hide (FV_24.out.bel hb)
    clear FV_24
    have LI_26 := hide (LI_24.out.bel hb)
    clear LI_24
    have S1_26 := hide (S1_24.out.bel hb)
    clear S1_24
    have S2_26 := hide (S2_24.out.bel hb)
    clear S2_24
    have FX_26 := hide (FX_24.out.bel hb)
    clear FX_24
    have ST_26 := hide (ST_24.out.bel hb)
    clear ST_24
    have O1_26 := hide (O1_24.out.bel hb)
    clear O1_24
    have O2_26 := hide (O2_s.out.bel hb)
    clear O2_s
    clear hb
    go_wp2_with fail
    refine (qCells_same UR UC NU 0 _ 0 _ _ _ _ U1_26.out U2_26.out (Nat.le_refl _) (Nat.le_refl _) (by have := HN2.out; omega)).mono ?_
    rintro e v27 ⟨rfl, hb⟩
    have HB_28 := hide (HB_26.out.bel hb)
    clear HB_26
    have FL_28 := hide (FL_26.out.bel hb)
    clear FL_26
    have a_28 := hide (a_26.out.bel hb)
    clear a_26
    have H1_28 := hide (H1_26.out.bel hb)
    clear H1_26
    have H2_28 := hide (H2_26.out.bel hb)
    clear H2_26
    have U1_28 := hide (U1_26.out.bel hb)
    clear U1_26
    have U2_28 := hide (U2_26.out.bel hb)
    clear U2_26
    have FV_28 := hide (FV_26.out.bel hb)
    clear FV_26
    have LI_28 := hide (LI_26.out.bel hb)
    clear LI_26
    have S1_28 := hide (S1_26.out.bel hb)
    clear S1_26
    have S2_28 := hide (S2_26.out.bel hb)
    clear S2_26
    have FX_28 := hide (FX_26.out.bel hb)
    clear FX_26
    have ST_28 := hide (ST_26.out.bel hb)
    clear ST_26
    have O1_28 := hide (O1_26.out.bel hb)
    clear O1_26
    have O2_28 := hide (O2_26.out.bel hb)
    clear O2_26
    clear hb
    go_wp2_with fail
    refine (qCells_same SR SC NS 0 _ 0 _ _ _ _ S1_28.out S2_28.out (Nat.le_refl _) (Nat.le_refl _) (by have := HN4.out; omega)).mono ?_
    rintro e v29 ⟨rfl, hb⟩
    have HB_30 := hide (HB_28.out.bel hb)
    clear HB_28
    have FL_30 := hide (FL_28.out.bel hb)
    clear FL_28
    have a_30 := hide (a_28.out.bel hb)
    clear a_28
    have H1_30 := hide (H1_28.out.bel hb)
    clear H1_28
    have H2_30 := hide (H2_28.out.bel hb)
    clear H2_28
    have U1_30 := hide (U1_28.out.bel hb)
    clear U1_28
    have U2_30 := hide (U2_28.out.bel hb)
    clear U2_28
    have FV_30 := hide (FV_28.out.bel hb)
    clear FV_28
    have LI_30 := hide (LI_28.out.bel hb)
    clear LI_28
    have S1_30 := hide (S1_28.out.bel hb)
    clear S1_28
    have S2_30 := hide (S2_28.out.bel hb)
    clear S2_28
    have FX_30 := hide (FX_28.out.bel hb)
    clear FX_28
    have ST_30 := hide (ST_28.out.bel hb)
    clear ST_28
    have O1_30 := hide (O1_28.out.bel hb)
    clear O1_28
    have O2_30 := hide (O2_28.out.bel hb)
    clear O2_28
    clear hb
    go_wp2_with fail
    refine (qTexts_same OT NO 0 _ 0 _ _ _ _ O1_30.out O2_30.out (Nat.le_refl _) (Nat.le_refl _) (by have := HN3.out; omega)).mono ?_
    rintro e v31 ⟨rfl, hb⟩
    have HB_32 := hide (HB_30.out.bel hb)
    clear HB_30
    have FL_32 := hide (FL_30.out.bel hb)
    clear FL_30
    have a_32 := hide (a_30.out.bel hb)
    clear a_30
    have H1_32 := hide (H1_30.out.bel hb)
    clear H1_30
    have H2_32 := hide (H2_30.out.bel hb)
    clear H2_30
    have U1_32 := hide (U1_30.out.bel hb)
    clear U1_30
    have U2_32 := hide (U2_30.out.bel hb)
    clear U2_30
    have FV_32 := hide (FV_30.out.bel hb)
    clear FV_30
    have LI_32 := hide (LI_30.out.bel hb)
    clear LI_30
    have S1_32 := hide (S1_30.out.bel hb)
    clear S1_30
    have S2_32 := hide (S2_30.out.bel hb)
    clear S2_30
    have FX_32 := hide (FX_30.out.bel hb)
    clear FX_30
    have ST_32 := hide (ST_30.out.bel hb)
    clear ST_30
    have O1_32 := hide (O1_30.out.bel hb)
    clear O1_30
    have O2_32 := hide (O2_30.out.bel hb)
    clear O2_30
    clear hb
    go_wp2_with fail
    go_meet
    case rel => exact ⟨rfl, HB_32, FL_32, a_32, H1_32, H2_32, U1_32, U2_32, FV_32, LI_32, S1_32, S2_32, FX_32, ST_32, O1_32, O2_32⟩
  case rest => as_aux_lemma =>
    obtain ⟨rfl, HB_25, FL_25, a_25, H1_25, H2_25, U1_25, U2_25, FV_25, LI_25, S1_25, S2_25, FX_25, ST_25, O1_25, O2_25⟩ := hcut
    clear U1_25
    clear S1_25
    clear O1_25
    go_upto_if 174 with fail
    go_cut [] from 28 to 298 (fun wx => Hid (BelW w wx) ∧ Hid (SlW wx 1 (.slice Au n1 cu) n1 (sC F)) ∧ Hid (BxI wx ab r c) ∧ Hid (SlW wx 2 (.slice H1 NH ch1) NH (iiC HR HC)) ∧ Hid (SlW wx 2 (.slice H2 NH ch2) NH (iiC HR HC)) ∧ Hid (SlW wx 2 (.slice U2 NU cu2) NU (iiC UR UC)) ∧ Hid (SlW wx 1 (.slice A2 n2 c2) n2 (sC F2)) ∧ Hid (SlW wx 2 (.slice A3 m3 c3) m3 (iiC p3 q3)) ∧ Hid (SlW wx 2 (.slice S2 NS cs2) NS (iiC SR SC)) ∧ Hid (SlW wx 1 (.slice A4 n4 c4) n4 (sC F4)) ∧ Hid (SlW wx 2 (.slice A5 m5 c5) m5 (iiC p5 q5)) ∧ Hid (SlW wx 1 (.slice O2 NO co2) NO (sC OT)))
    case first => as_aux_lemma =>
      cases ok with
      | false =>
        go_wp2_with fail
        go_meet
        case rel => exact ⟨HB_25, FL_25, a_25, H1_25, H2_25, U2_25, FV_25, LI_25, S2_25, FX_25, ST_25, O2_25⟩
      | true =>
        obtain ⟨hf1, hf2, hf3⟩ := hand_first (b := lf) HOK.out
        rw [HNH.out] at hf1
        rw [HHR.out] at hf2
        rw [HHC.out] at hf3
        have HN0 : Hid (0 < NH) := hf1
        have HFB : Hid (flB F n1 = true) := (sf_two HOK.out).1
        have HOPN : Hid (∀ i, i < NH → opB F n1 (HR i) (HC i) = true) := fun i hi => by
          have h := hand_open (b := lf) HOK.out (i := i) (by rw [HNH.out]; exact hi)
          rw [HHR.out, HHC.out] at h
          exact h
        have HNXT : Hid (∀ i, i + 1 < NH → (HR (i + 1) - HR i).natAbs + (HC (i + 1) - HC i).natAbs = 1) := fun i hi => by
          have h := hand_next (b := lf) HOK.out (i := i) (by rw [HNH.out]; exact hi)
          rw [HHR.out, HHC.out] at h
          exact h
        have HBD : Hid (∀ i, i < NH → 0 ≤ HR i ∧ HR i ≤ 12 ∧ 0 ≤ HC i ∧ HC i ≤ 12) := fun i hi => by
          have h : opP F n1 (HR i, HC i) = true := HOPN.out i hi
          have h1 := opP_bd h
          have h2 := flB_facts HFB.out
          simp only at h1
          omega
        obtain ⟨hbk, hof, hhbk⟩ := SlW.form H2_25.out HN0.out
        subst hhbk
        obtain ⟨c0, c1, l2⟩ := SlW.ii0 H2_25.out HN0.out
        rw [hf2] at c0
        rw [hf3] at c1
        have hn0 := HN0.out
        clear hf1 hf2 hf3
        have d1 : decide ((NH : Int) < 1) = false := decide_eq_false (by omega)
        have d2 : decide (NH < 1) = false := decide_eq_false (by omega)
        obtain ⟨a0, a1, af, al⟩ := a_25.out
        go_wp2_with fail
        (refine wp_region_below_lit (by kernel_rfl) (by kernel_rfl) ?_; (repeat (first | go_big_quiet_step (fail) | quiet_step (fail))); refine wpQuiet_nil ?_; intro w17 hb17; have hz17 := hb17.size; (try (simp at hz17)); obtain ⟨hcw17, hfw17⟩ := bcell hb17; (try (have hy17 : w.heap.size < w17.heap.size := by omega)); (try (have hyy17 : w.heap.size + 1 < w17.heap.size := by omega)))
        have hb : Below wc.heap.size wc w17 := (by repeat (first | (with_reducible exact Below.refl _ _) | (with_reducible refine below_ov ?_ ?_) | (with_reducible refine Below.setCell ?_ ?_ _) | (with_reducible refine Below.alloc ?_ ?_ _) | (with_reducible refine Below.drew ?_) | (with_reducible refine below_drewN ?_ _) | (refine Below.trans ?_ (Below.mono ‹Below _ _ _› (by first | omega | (simp; done) | (simp; omega)))) | exact Below.refl _ _ | omega | (focus (simp; done)) | (focus (simp; omega))))
        clear hb17 hcw17 hfw17
        have HB_26 := hide (HB_25.out.bel hb)
        clear HB_25
        have FL_26 := hide (FL_25.out.bel hb)
        clear FL_25
        have a_26 := hide (a_25.out.bel hb)
        clear a_25
        have H1_26 := hide (H1_25.out.bel hb)
        clear H1_25
        have H2_26 := hide (H2_25.out.bel hb)
        clear H2_25
        have U2_26 := hide (U2_25.out.bel hb)
        clear U2_25
        have FV_26 := hide (FV_25.out.bel hb)
        clear FV_25
        have LI_26 := hide (LI_25.out.bel hb)
        clear LI_25
        have S2_26 := hide (S2_25.out.bel hb)
        clear S2_25
        have FX_26 := hide (FX_25.out.bel hb)
        clear FX_25
        have ST_26 := hide (ST_25.out.bel hb)
        clear ST_25
        have O2_26 := hide (O2_25.out.bel hb)
        clear O2_25
        clear hb
        clear a0 a1 af al
        clear c0 c1 l2 d1 d2 hz17
        go_wp2_with fail
        go_loopg [187] (NH + 1) (fun gn iv wr1 => ∃ k1 : Nat, k1 ≤ NH ∧ NH - k1 < gn ∧ iv = .int .i64 k1 ∧ Hid (BelW w17 wr1))
        case atStart => exact ⟨0, by omega, by omega, rfl, Below.refl _ _⟩
        case round =>
          obtain ⟨k1, hk1, hgn1, rfl, HL1⟩ := hrel
          have hbl : Below w17.heap.size w17 wr := HL1.out
          have HB_L1 := hide (HB_26.out.bel hbl)
          have FL_L1 := hide (FL_26.out.bel hbl)
          have a_L1 := hide (a_26.out.bel hbl)
          have H1_L1 := hide (H1_26.out.bel hbl)
          have H2_L1 := hide (H2_26.out.bel hbl)
          have U2_L1 := hide (U2_26.out.bel hbl)
          have FV_L1 := hide (FV_26.out.bel hbl)
          have LI_L1 := hide (LI_26.out.bel hbl)
          have S2_L1 := hide (S2_26.out.bel hbl)
          have FX_L1 := hide (FX_26.out.bel hbl)
          have ST_L1 := hide (ST_26.out.bel hbl)
          have O2_L1 := hide (O2_26.out.bel hbl)
          clear hbl
          clear HB_26 FL_26 a_26 H1_26 H2_26 U2_26 FV_26 LI_26 S2_26 FX_26 ST_26 O2_26
          have hbnd1 := HN1.out
          by_cases hk1n : k1 < NH
          · skip
            obtain ⟨c0, c1, l2⟩ := SlW.ii H2_L1.out hk1n
            have HOP := hide (HOPN.out k1 hk1n)
            obtain ⟨x1, hx1⟩ : ∃ z, HR k1 = z := ⟨_, rfl⟩
            obtain ⟨x2, hx2⟩ : ∃ z, HC k1 = z := ⟨_, rfl⟩
            have HX1 := hide hx1
            have HX2 := hide hx2
            rw [hx1] at c0 HOP
            rw [hx2] at c1 HOP
            clear hx1 hx2
            go_wp2_with fail
            obtain ⟨v27, hW⟩ : ∃ W, W = wr.alloc (.cells #[.int .i64 x1, .int .i64 x2] 38) := ⟨_, rfl⟩
            obtain ⟨xb, hxb⟩ : ∃ z, z = wr.heap.size := ⟨_, rfl⟩
            have HN : Hid (BxI v27 xb x1 x2) := by show BxI _ _ _ _; rw [hW, hxb]; exact BxI.new _ _ _ _
            have hb : Below wr.heap.size wr v27 := by rw [hW]; exact (Below.refl _ _).alloc (Nat.le_refl _) _
            rw [← hW, ← hxb]
            clear hW hxb
            have HB_28 := hide (HB_L1.out.bel hb)
            clear HB_L1
            have FL_28 := hide (FL_L1.out.bel hb)
            clear FL_L1
            have a_28 := hide (a_L1.out.bel hb)
            clear a_L1
            have H1_28 := hide (H1_L1.out.bel hb)
            clear H1_L1
            have H2_28 := hide (H2_L1.out.bel hb)
            clear H2_L1
            have U2_28 := hide (U2_L1.out.bel hb)
            clear U2_L1
            have FV_28 := hide (FV_L1.out.bel hb)
            clear FV_L1
            have LI_28 := hide (LI_L1.out.bel hb)
            clear LI_L1
            have S2_28 := hide (S2_L1.out.bel hb)
            clear S2_L1
            have FX_28 := hide (FX_L1.out.bel hb)
            clear FX_L1
            have ST_28 := hide (ST_L1.out.bel hb)
            clear ST_L1
            have O2_28 := hide (O2_L1.out.bel hb)
            clear O2_L1
            have HL1_28 := hide (HL1.out.bel hb)
            clear HL1
            clear hb
            have Hx_28 := HN
            clear HN
            clear c0 c1 l2
            obtain ⟨x0, x1, xf, xl⟩ := Hx_28.out
            go_wp2_with fail
            clear x0 x1 xf xl
            refine (IsOpenCell_impl F n1 x1 x2 0 _ _ _ FL_28.out (Nat.le_refl _) HFF.out).mono ?_
            rintro e v29 ⟨rfl, hb⟩
            rw [show ioR F n1 x1 x2 = true by rw [ioR, HFB.out, HOP.out]; rfl, HFB.out]
            have HB_30 := hide (HB_28.out.bel hb)
            clear HB_28
            have FL_30 := hide (FL_28.out.bel hb)
            clear FL_28
            have a_30 := hide (a_28.out.bel hb)
            clear a_28
            have H1_30 := hide (H1_28.out.bel hb)
            clear H1_28
            have H2_30 := hide (H2_28.out.bel hb)
            clear H2_28
            have U2_30 := hide (U2_28.out.bel hb)
            clear U2_28
            have FV_30 := hide (FV_28.out.bel hb)
            clear FV_28
            have LI_30 := hide (LI_28.out.bel hb)
            clear LI_28
            have S2_30 := hide (S2_28.out.bel hb)
            clear S2_28
            have FX_30 := hide (FX_28.out.bel hb)
            clear FX_28
            have ST_30 := hide (ST_28.out.bel hb)
            clear ST_28
            have O2_30 := hide (O2_28.out.bel hb)
            clear O2_28
            have HL1_30 := hide (HL1_28.out.bel hb)
            clear HL1_28
            have x_30 := hide (Hx_28.out.bel hb)
            clear Hx_28
            clear hb
            rcases Nat.eq_zero_or_pos k1 with h0 | h0
            · skip
              have d0 : decide (0 < k1) = false := decide_eq_false (by omega)
              have d0' : decide ((0 : Int) < (k1 : Int)) = false := decide_eq_false (by omega)
              clear h0
              obtain ⟨x0, x1, xf, xl⟩ := x_30.out
              go_wp2_with fail
              clear x0 x1 xf xl
              obtain ⟨x0, x1, xf, xl⟩ := x_30.out
              (refine wp_region_below_lit (by kernel_rfl) (by kernel_rfl) ?_; (repeat (first | go_big_quiet_step (fail) | quiet_step (fail))); refine wpQuiet_nil ?_; intro w25 hb25; have hz25 := hb25.size; (try (simp at hz25)); obtain ⟨hcw25, hfw25⟩ := bcell hb25; (try (have hy25 : w.heap.size < w25.heap.size := by omega)); (try (have hyy25 : w.heap.size + 1 < w25.heap.size := by omega)))
              have hb : Below v29.heap.size v29 w25 := (by repeat (first | (with_reducible exact Below.refl _ _) | (with_reducible refine below_ov ?_ ?_) | (with_reducible refine Below.setCell ?_ ?_ _) | (with_reducible refine Below.alloc ?_ ?_ _) | (with_reducible refine Below.drew ?_) | (with_reducible refine below_drewN ?_ _) | (refine Below.trans ?_ (Below.mono ‹Below _ _ _› (by first | omega | (simp; done) | (simp; omega)))) | exact Below.refl _ _ | omega | (focus (simp; done)) | (focus (simp; omega))))
              clear hb25 hcw25 hfw25
              have HB_31 := hide (HB_30.out.bel hb)
              clear HB_30
              have FL_31 := hide (FL_30.out.bel hb)
              clear FL_30
              have a_31 := hide (a_30.out.bel hb)
              clear a_30
              have H1_31 := hide (H1_30.out.bel hb)
              clear H1_30
              have H2_31 := hide (H2_30.out.bel hb)
              clear H2_30
              have U2_31 := hide (U2_30.out.bel hb)
              clear U2_30
              have FV_31 := hide (FV_30.out.bel hb)
              clear FV_30
              have LI_31 := hide (LI_30.out.bel hb)
              clear LI_30
              have S2_31 := hide (S2_30.out.bel hb)
              clear S2_30
              have FX_31 := hide (FX_30.out.bel hb)
              clear FX_30
              have ST_31 := hide (ST_30.out.bel hb)
              clear ST_30
              have O2_31 := hide (O2_30.out.bel hb)
              clear O2_30
              have HL1_31 := hide (HL1_30.out.bel hb)
              clear HL1_30
              have x_31 := hide (x_30.out.bel hb)
              clear x_30
              clear hb
              clear x0 x1 xf xl
              clear hz25
              go_wp2_with fail
              go_roundg (NH - k1)
              case measure => omega
              case rel => exact ⟨k1 + 1, by omega, by omega, by go_num, HL1_31⟩
            · skip
              have d0 : decide (0 < k1) = true := decide_eq_true (by omega)
              have d0' : decide ((0 : Int) < (k1 : Int)) = true := decide_eq_true (by omega)
              have z1 : IntKind.i64.wrap ((k1 : Int) - 1) = (k1 : Int) - 1 := IntWalk.i64_in _ (by omega)
              have z2 : ((k1 : Int) - 1).toNat = k1 - 1 := by omega
              obtain ⟨c0, c1, l2⟩ := SlW.ii H2_30.out (k := k1 - 1) (by omega)
              have hnx := HNXT.out (k1 - 1) (by omega)
              rw [show k1 - 1 + 1 = k1 by omega, HX1.out, HX2.out] at hnx
              have b1 := HBD.out (k1 - 1) (by omega)
              have b2 := HBD.out k1 hk1n
              rw [HX1.out, HX2.out] at b2
              obtain ⟨y1, hy1⟩ : ∃ z, HR (k1 - 1) = z := ⟨_, rfl⟩
              obtain ⟨y2, hy2⟩ : ∃ z, HC (k1 - 1) = z := ⟨_, rfl⟩
              rw [hy1] at c0 hnx b1
              rw [hy2] at c1 hnx b1
              clear hy1 hy2
              obtain ⟨e1, he1⟩ : ∃ z, x1 - y1 = z := ⟨_, rfl⟩
              obtain ⟨e2, he2⟩ : ∃ z, x2 - y2 = z := ⟨_, rfl⟩
              have z3 : IntKind.i64.wrap (x1 - y1) = e1 := by rw [IntWalk.i64_in _ (by omega)]; exact he1
              have z4 : IntKind.i64.wrap (x2 - y2) = e2 := by rw [IntWalk.i64_in _ (by omega)]; exact he2
              rw [he1, he2] at hnx
              have be1 : -1000 ≤ e1 ∧ e1 ≤ 1000 := by omega
              have be2 : -1000 ≤ e2 ∧ e2 ≤ 1000 := by omega
              have z5 : IntKind.i64.wrap ((e1.natAbs : Int) + (e2.natAbs : Int)) = 1 := by rw [IntWalk.i64_in _ (by omega)]; omega
              clear hnx b1 b2 he1 he2
              obtain ⟨x0, x1, xf, xl⟩ := x_30.out
              go_wp2_with fail
              clear x0 x1 xf xl
              obtain ⟨x0, x1, xf, xl⟩ := x_30.out
              (refine wp_region_below_lit (by kernel_rfl) (by kernel_rfl) ?_; (repeat (first | go_big_quiet_step ((first | (go_at_call 51; exact quiet_ov (qAbs_any e1 _ be1)) | (go_at_call 51; exact quiet_ov (qAbs_any e2 _ be2)))) | quiet_step ((first | (go_at_call 51; exact quiet_ov (qAbs_any e1 _ be1)) | (go_at_call 51; exact quiet_ov (qAbs_any e2 _ be2)))))); refine wpQuiet_nil ?_; intro w25 hb25; have hz25 := hb25.size; (try (simp at hz25)); obtain ⟨hcw25, hfw25⟩ := bcell hb25; (try (have hy25 : w.heap.size < w25.heap.size := by omega)); (try (have hyy25 : w.heap.size + 1 < w25.heap.size := by omega)))
              have hb : Below v29.heap.size v29 w25 := (by repeat (first | (with_reducible exact Below.refl _ _) | (with_reducible refine below_ov ?_ ?_) | (with_reducible refine Below.setCell ?_ ?_ _) | (with_reducible refine Below.alloc ?_ ?_ _) | (with_reducible refine Below.drew ?_) | (with_reducible refine below_drewN ?_ _) | (refine Below.trans ?_ (Below.mono ‹Below _ _ _› (by first | omega | (simp; done) | (simp; omega)))) | exact Below.refl _ _ | omega | (focus (simp; done)) | (focus (simp; omega))))
              clear hb25 hcw25 hfw25
              have HB_31 := hide (HB_30.out.bel hb)
              clear HB_30
              have FL_31 := hide (FL_30.out.bel hb)
              clear FL_30
              have a_31 := hide (a_30.out.bel hb)
              clear a_30
              have H1_31 := hide (H1_30.out.bel hb)
              clear H1_30
              have H2_31 := hide (H2_30.out.bel hb)
              clear H2_30
              have U2_31 := hide (U2_30.out.bel hb)
              clear U2_30
              have FV_31 := hide (FV_30.out.bel hb)
              clear FV_30
              have LI_31 := hide (LI_30.out.bel hb)
              clear LI_30
              have S2_31 := hide (S2_30.out.bel hb)
              clear S2_30
              have FX_31 := hide (FX_30.out.bel hb)
              clear FX_30
              have ST_31 := hide (ST_30.out.bel hb)
              clear ST_30
              have O2_31 := hide (O2_30.out.bel hb)
              clear O2_30
              have HL1_31 := hide (HL1_30.out.bel hb)
              clear HL1_30
              have x_31 := hide (x_30.out.bel hb)
              clear x_30
              clear hb
              clear x0 x1 xf xl
              clear hz25 z1 z2 z3 z4 z5 c0 c1 l2
              go_wp2_with fail
              go_roundg (NH - k1)
              case measure => omega
              case rel => exact ⟨k1 + 1, by omega, by omega, by go_num, HL1_31⟩
          · skip
            have ek : NH = k1 := by omega
            clear hk1n hk1 hgn1
            subst ek
            by_cases h1000 : NH ≤ 1000
            · skip
              have d1 : decide ((NH : Int) ≤ 1000) = true := decide_eq_true (by omega)
              have d2 : decide (NH ≤ 1000) = true := decide_eq_true (by omega)
              have HSE : Hid (seOk F n1 HR HC NH = true) := seOk_of HFB.out h1000 HOPN.out
              have HAP : Hid (∀ i j, i < NU → j < seN F n1 HR HC NH → ¬ (UR i = seR F n1 HR HC NH j ∧ UC i = seC F n1 HR HC NH j)) := fun i j hi hj => by
                have h := uns_apart (b := lf) HOK.out (i := i) (j := j) (by rw [HHR.out, HHC.out, HNH.out]; exact HSE.out) (by rw [HNU.out]; exact hi) (by rw [HHR.out, HHC.out, HNH.out]; exact hj)
                rw [HHR.out, HHC.out, HNH.out, HUR.out, HUC.out] at h
                exact h
              have HRE : Hid (∀ i, i < NU → ∃ q : Nat, q < n1 * (F 0).size ∧ UR i * ((F 0).size : Int) + UC i = (q : Int) ∧ 0 ≤ sfO F n1 r c q ∧ 0 ≤ UC i ∧ UC i < 12) := fun i hi => by
                have h := uns_reached (b := lf) HOK.out (i := i) (by rw [HNU.out]; exact hi)
                have h2 := uns_bd (b := lf) HOK.out i
                rw [HUR.out, HUC.out] at h
                rw [HUC.out] at h2
                obtain ⟨q, h3, h4, h5⟩ := h
                exact ⟨q, h3, h4, h5, h2.1, h2.2⟩
              have HNT : Hid (sfN F n1 r c = n1 * (F 0).size) := by show _ = _; rw [sfN, if_pos HOK.out]
              have HAR : Hid (1 ≤ n1 ∧ 1 ≤ n1 * (F 0).size ∧ n1 * (F 0).size ≤ 144 ∧ (F 0).size ≤ 12) := ⟨(flB_facts HFB.out).1, (fl_area HFB.out).1, (fl_area HFB.out).2, (flB_facts HFB.out).2.2.2.1⟩
              have HNKL : Hid (seN F n1 HR HC NH ≤ 1048576) := seN_le
              obtain ⟨NK, hNK⟩ : ∃ z, seN F n1 HR HC NH = z := ⟨_, rfl⟩
              have HNK := hide hNK
              clear hNK
              obtain ⟨KR, hKR⟩ : ∃ z, seR F n1 HR HC NH = z := ⟨_, rfl⟩
              have HKR := hide hKR
              clear hKR
              obtain ⟨KC, hKC⟩ : ∃ z, seC F n1 HR HC NH = z := ⟨_, rfl⟩
              have HKC := hide hKC
              clear hKC
              obtain ⟨SO, hSO⟩ : ∃ z, sfO F n1 r c = z := ⟨_, rfl⟩
              have HSOO := hide hSO
              clear hSO
              rw [HNK.out] at HAP HNKL
              rw [HKR.out, HKC.out] at HAP
              rw [HSOO.out] at HRE
              go_wp2_with fail
              refine (SearchedCells_impl F n1 HR HC NH 0 _ _ 0 _ _ _ FL_L1.out (Nat.le_refl _) H1_L1.out (Nat.le_refl _) HFF.out).mono ?_
              rintro e v27 ⟨st, rfl, ho, hb⟩
              rw [HSE.out]
              rw [HNK.out, HKR.out, HKC.out] at ho
              have HB_28 := hide (HB_L1.out.bel hb)
              clear HB_L1
              have FL_28 := hide (FL_L1.out.bel hb)
              clear FL_L1
              have a_28 := hide (a_L1.out.bel hb)
              clear a_L1
              have H1_28 := hide (H1_L1.out.bel hb)
              clear H1_L1
              have H2_28 := hide (H2_L1.out.bel hb)
              clear H2_L1
              have U2_28 := hide (U2_L1.out.bel hb)
              clear U2_L1
              have FV_28 := hide (FV_L1.out.bel hb)
              clear FV_L1
              have LI_28 := hide (LI_L1.out.bel hb)
              clear LI_L1
              have S2_28 := hide (S2_L1.out.bel hb)
              clear S2_L1
              have FX_28 := hide (FX_L1.out.bel hb)
              clear FX_L1
              have ST_28 := hide (ST_L1.out.bel hb)
              clear ST_L1
              have O2_28 := hide (O2_L1.out.bel hb)
              clear O2_L1
              have HL1_28 := hide (HL1.out.bel hb)
              clear HL1
              obtain ⟨K1, ck1, rfl, _, _⟩ := id ho.sl.open_
              have K1_s : Hid (SlW v27 2 (.slice K1 NK ck1) NK (iiC KR KC)) := SlW.of ho.sl (Nat.le_refl _)
              clear ho hb
              go_wp2_with fail
              refine (SearchedCells_spec F n1 HR HC NH 0 _ _ 0 _ _ _ FL_28.out (Nat.le_refl _) H2_28.out (Nat.le_refl _) HFF.out).mono ?_
              rintro e v29 ⟨st, rfl, ho, hb⟩
              rw [HSE.out]
              rw [HNK.out, HKR.out, HKC.out] at ho
              have HB_30 := hide (HB_28.out.bel hb)
              clear HB_28
              have FL_30 := hide (FL_28.out.bel hb)
              clear FL_28
              have a_30 := hide (a_28.out.bel hb)
              clear a_28
              have H1_30 := hide (H1_28.out.bel hb)
              clear H1_28
              have H2_30 := hide (H2_28.out.bel hb)
              clear H2_28
              have U2_30 := hide (U2_28.out.bel hb)
              clear U2_28
              have FV_30 := hide (FV_28.out.bel hb)
              clear FV_28
              have LI_30 := hide (LI_28.out.bel hb)
              clear LI_28
              have S2_30 := hide (S2_28.out.bel hb)
              clear S2_28
              have FX_30 := hide (FX_28.out.bel hb)
              clear FX_28
              have ST_30 := hide (ST_28.out.bel hb)
              clear ST_28
              have O2_30 := hide (O2_28.out.bel hb)
              clear O2_28
              have HL1_30 := hide (HL1_28.out.bel hb)
              clear HL1_28
              have K1_30 := hide (K1_s.out.bel hb)
              clear K1_s
              obtain ⟨K2, ck2, rfl, _, _⟩ := id ho.sl.open_
              have K2_s : Hid (SlW v29 2 (.slice K2 NK ck2) NK (iiC KR KC)) := SlW.of ho.sl (Nat.le_refl _)
              clear ho hb
              obtain ⟨a0, a1, af, al⟩ := a_30.out
              go_wp2_with fail
              clear a0 a1 af al
              refine (StepsFrom_spec F n1 r c 0 _ _ _ FL_30.out (Nat.le_refl _) HFF.out).mono ?_
              rintro e v31 ⟨st, rfl, ho, hb⟩
              rw [HOK.out]
              rw [HNT.out, HSOO.out] at ho
              have HB_32 := hide (HB_30.out.bel hb)
              clear HB_30
              have FL_32 := hide (FL_30.out.bel hb)
              clear FL_30
              have a_32 := hide (a_30.out.bel hb)
              clear a_30
              have H1_32 := hide (H1_30.out.bel hb)
              clear H1_30
              have H2_32 := hide (H2_30.out.bel hb)
              clear H2_30
              have U2_32 := hide (U2_30.out.bel hb)
              clear U2_30
              have FV_32 := hide (FV_30.out.bel hb)
              clear FV_30
              have LI_32 := hide (LI_30.out.bel hb)
              clear LI_30
              have S2_32 := hide (S2_30.out.bel hb)
              clear S2_30
              have FX_32 := hide (FX_30.out.bel hb)
              clear FX_30
              have ST_32 := hide (ST_30.out.bel hb)
              clear ST_30
              have O2_32 := hide (O2_30.out.bel hb)
              clear O2_30
              have HL1_32 := hide (HL1_30.out.bel hb)
              clear HL1_30
              have K1_32 := hide (K1_30.out.bel hb)
              clear K1_30
              have K2_32 := hide (K2_s.out.bel hb)
              clear K2_s
              obtain ⟨PS, cps, rfl, _, _⟩ := id ho.sl.open_
              have PS_s : Hid (SlW v31 1 (.slice PS (n1 * (F 0).size) cps) (n1 * (F 0).size) (iC SO)) := SlW.of ho.sl (Nat.le_refl _)
              clear ho hb
              go_wp2_with fail
              refine (qCells_same KR KC NK 0 _ 0 _ _ _ _ K1_32.out K2_32.out (Nat.le_refl _) (Nat.le_refl _) (by have := HNKL.out; omega)).mono ?_
              rintro e v33 ⟨rfl, hb⟩
              have HB_34 := hide (HB_32.out.bel hb)
              clear HB_32
              have FL_34 := hide (FL_32.out.bel hb)
              clear FL_32
              have a_34 := hide (a_32.out.bel hb)
              clear a_32
              have H1_34 := hide (H1_32.out.bel hb)
              clear H1_32
              have H2_34 := hide (H2_32.out.bel hb)
              clear H2_32
              have U2_34 := hide (U2_32.out.bel hb)
              clear U2_32
              have FV_34 := hide (FV_32.out.bel hb)
              clear FV_32
              have LI_34 := hide (LI_32.out.bel hb)
              clear LI_32
              have S2_34 := hide (S2_32.out.bel hb)
              clear S2_32
              have FX_34 := hide (FX_32.out.bel hb)
              clear FX_32
              have ST_34 := hide (ST_32.out.bel hb)
              clear ST_32
              have O2_34 := hide (O2_32.out.bel hb)
              clear O2_32
              have HL1_34 := hide (HL1_32.out.bel hb)
              clear HL1_32
              have K1_34 := hide (K1_32.out.bel hb)
              clear K1_32
              have K2_34 := hide (K2_32.out.bel hb)
              clear K2_32
              have PS_34 := hide (PS_s.out.bel hb)
              clear PS_s
              clear hb
              clear K1_34 d1 d2 h1000
              have HWN := hide HAR.out.1
              obtain ⟨fbk, fof, hfbk⟩ := SlW.form FL_34.out HAR.out.1
              subst hfbk
              obtain ⟨pbk, pof, hpbk⟩ := SlW.form PS_34.out (by have := HAR.out; omega)
              subst hpbk
              go_wp2_with fail
              go_loopg [270] (NU + 1) (fun gn iv wr2 => ∃ k2 : Nat, k2 ≤ NU ∧ NU - k2 < gn ∧ iv = .int .i64 k2 ∧ Hid (BelW v33 wr2))
              case atStart => exact ⟨0, by omega, by omega, rfl, Below.refl _ _⟩
              case round =>
                obtain ⟨k2, hk2, hgn2, rfl, HL2⟩ := hrel
                have hbl : Below v33.heap.size v33 wr := HL2.out
                have HB_L2 := hide (HB_34.out.bel hbl)
                have FL_L2 := hide (FL_34.out.bel hbl)
                have a_L2 := hide (a_34.out.bel hbl)
                have H1_L2 := hide (H1_34.out.bel hbl)
                have H2_L2 := hide (H2_34.out.bel hbl)
                have U2_L2 := hide (U2_34.out.bel hbl)
                have FV_L2 := hide (FV_34.out.bel hbl)
                have LI_L2 := hide (LI_34.out.bel hbl)
                have S2_L2 := hide (S2_34.out.bel hbl)
                have FX_L2 := hide (FX_34.out.bel hbl)
                have ST_L2 := hide (ST_34.out.bel hbl)
                have O2_L2 := hide (O2_34.out.bel hbl)
                have HL1_L2 := hide (HL1_34.out.bel hbl)
                have K2_L2 := hide (K2_34.out.bel hbl)
                have PS_L2 := hide (PS_34.out.bel hbl)
                clear hbl
                clear HB_34 FL_34 a_34 H1_34 H2_34 U2_34 FV_34 LI_34 S2_34 FX_34 ST_34 O2_34 K2_34 PS_34
                have hbnd2 := HN2.out
                by_cases hk2n : k2 < NU
                · skip
                  obtain ⟨ub, uo, hub⟩ := SlW.form U2_L2.out (by omega)
                  subst hub
                  obtain ⟨c0, c1, l2⟩ := SlW.ii U2_L2.out hk2n
                  have HAX := hide (fun j hj => HAP.out k2 j hk2n hj)
                  obtain ⟨q, hq1, hq2, hq3, hq4, hq5⟩ := HRE.out k2 hk2n
                  obtain ⟨u1, hu1⟩ : ∃ z, UR k2 = z := ⟨_, rfl⟩
                  obtain ⟨u2, hu2⟩ : ∃ z, UC k2 = z := ⟨_, rfl⟩
                  rw [hu1] at c0 HAX hq2
                  rw [hu2] at c1 HAX hq2 hq4 hq5
                  have HQ := hide (And.intro hq1 (And.intro hq2 (And.intro hq3 (And.intro hq4 hq5))))
                  clear hu1 hu2 hq1 hq2 hq3 hq4 hq5
                  go_wp2_with fail
                  obtain ⟨v35, hW⟩ : ∃ W, W = wr.alloc (.cells #[.int .i64 u1, .int .i64 u2] 38) := ⟨_, rfl⟩
                  obtain ⟨xb, hxb⟩ : ∃ z, z = wr.heap.size := ⟨_, rfl⟩
                  have HN : Hid (BxI v35 xb u1 u2) := by show BxI _ _ _ _; rw [hW, hxb]; exact BxI.new _ _ _ _
                  have hb : Below wr.heap.size wr v35 := by rw [hW]; exact (Below.refl _ _).alloc (Nat.le_refl _) _
                  rw [← hW, ← hxb]
                  clear hW hxb
                  have HB_36 := hide (HB_L2.out.bel hb)
                  clear HB_L2
                  have FL_36 := hide (FL_L2.out.bel hb)
                  clear FL_L2
                  have a_36 := hide (a_L2.out.bel hb)
                  clear a_L2
                  have H1_36 := hide (H1_L2.out.bel hb)
                  clear H1_L2
                  have H2_36 := hide (H2_L2.out.bel hb)
                  clear H2_L2
                  have U2_36 := hide (U2_L2.out.bel hb)
                  clear U2_L2
                  have FV_36 := hide (FV_L2.out.bel hb)
                  clear FV_L2
                  have LI_36 := hide (LI_L2.out.bel hb)
                  clear LI_L2
                  have S2_36 := hide (S2_L2.out.bel hb)
                  clear S2_L2
                  have FX_36 := hide (FX_L2.out.bel hb)
                  clear FX_L2
                  have ST_36 := hide (ST_L2.out.bel hb)
                  clear ST_L2
                  have O2_36 := hide (O2_L2.out.bel hb)
                  clear O2_L2
                  have HL1_36 := hide (HL1_L2.out.bel hb)
                  clear HL1_L2
                  have K2_36 := hide (K2_L2.out.bel hb)
                  clear K2_L2
                  have PS_36 := hide (PS_L2.out.bel hb)
                  clear PS_L2
                  have HL2_36 := hide (HL2.out.bel hb)
                  clear HL2
                  clear hb
                  have Hx_36 := HN
                  clear HN
                  clear c0 c1 l2
                  go_wp2_with fail
                  go_loopg [276] (NK + 1) (fun gn iv wr3 => ∃ k3 : Nat, k3 ≤ NK ∧ NK - k3 < gn ∧ iv = .int .i64 k3 ∧ Hid (BelW v35 wr3))
                  case atStart => exact ⟨0, by omega, by omega, rfl, Below.refl _ _⟩
                  case round =>
                    obtain ⟨k3, hk3, hgn3, rfl, HL3⟩ := hrel
                    have hbl : Below v35.heap.size v35 wr := HL3.out
                    have HB_L3 := hide (HB_36.out.bel hbl)
                    have FL_L3 := hide (FL_36.out.bel hbl)
                    have a_L3 := hide (a_36.out.bel hbl)
                    have H1_L3 := hide (H1_36.out.bel hbl)
                    have H2_L3 := hide (H2_36.out.bel hbl)
                    have U2_L3 := hide (U2_36.out.bel hbl)
                    have FV_L3 := hide (FV_36.out.bel hbl)
                    have LI_L3 := hide (LI_36.out.bel hbl)
                    have S2_L3 := hide (S2_36.out.bel hbl)
                    have FX_L3 := hide (FX_36.out.bel hbl)
                    have ST_L3 := hide (ST_36.out.bel hbl)
                    have O2_L3 := hide (O2_36.out.bel hbl)
                    have HL1_L3 := hide (HL1_36.out.bel hbl)
                    have K2_L3 := hide (K2_36.out.bel hbl)
                    have PS_L3 := hide (PS_36.out.bel hbl)
                    have HL2_L3 := hide (HL2_36.out.bel hbl)
                    have x_L3 := hide (Hx_36.out.bel hbl)
                    clear hbl
                    clear HB_36 FL_36 a_36 H1_36 H2_36 U2_36 FV_36 LI_36 S2_36 FX_36 ST_36 O2_36 K2_36 PS_36 Hx_36
                    have hbnd3 := HNKL.out
                    by_cases hk3n : k3 < NK
                    · skip
                      obtain ⟨kb, ko, hkb⟩ := SlW.form K2_L3.out (by omega)
                      subst hkb
                      obtain ⟨c0, c1, l2⟩ := SlW.ii K2_L3.out hk3n
                      have hax := HAX.out k3 hk3n
                      obtain ⟨t1, ht1⟩ : ∃ z, KR k3 = z := ⟨_, rfl⟩
                      obtain ⟨t2, ht2⟩ : ∃ z, KC k3 = z := ⟨_, rfl⟩
                      rw [ht1] at c0 hax
                      rw [ht2] at c1 hax
                      clear ht1 ht2
                      obtain ⟨x0, x1, xf, xl⟩ := x_L3.out
                      by_cases ex : u1 = t1
                      · skip
                        subst ex
                        have ey : (u2 == t2) = false := by simpa using hax
                        have ey' : ¬ u2 = t2 := by simpa using ey
                        clear hax
                        go_wp2_with fail
                        clear x0 x1 xf xl
                        clear c0 c1 l2
                        obtain ⟨v37, hW⟩ : ∃ W, W = wr.alloc (.cells #[.int .i64 u1, .int .i64 t2] 38) := ⟨_, rfl⟩
                        obtain ⟨yb, hyb⟩ : ∃ z, z = wr.heap.size := ⟨_, rfl⟩
                        have HN : Hid (BxI v37 yb u1 t2) := by show BxI _ _ _ _; rw [hW, hyb]; exact BxI.new _ _ _ _
                        have hb : Below wr.heap.size wr v37 := by rw [hW]; exact (Below.refl _ _).alloc (Nat.le_refl _) _
                        rw [← hW, ← hyb]
                        clear hW hyb
                        have HB_38 := hide (HB_L3.out.bel hb)
                        clear HB_L3
                        have FL_38 := hide (FL_L3.out.bel hb)
                        clear FL_L3
                        have a_38 := hide (a_L3.out.bel hb)
                        clear a_L3
                        have H1_38 := hide (H1_L3.out.bel hb)
                        clear H1_L3
                        have H2_38 := hide (H2_L3.out.bel hb)
                        clear H2_L3
                        have U2_38 := hide (U2_L3.out.bel hb)
                        clear U2_L3
                        have FV_38 := hide (FV_L3.out.bel hb)
                        clear FV_L3
                        have LI_38 := hide (LI_L3.out.bel hb)
                        clear LI_L3
                        have S2_38 := hide (S2_L3.out.bel hb)
                        clear S2_L3
                        have FX_38 := hide (FX_L3.out.bel hb)
                        clear FX_L3
                        have ST_38 := hide (ST_L3.out.bel hb)
                        clear ST_L3
                        have O2_38 := hide (O2_L3.out.bel hb)
                        clear O2_L3
                        have HL1_38 := hide (HL1_L3.out.bel hb)
                        clear HL1_L3
                        have K2_38 := hide (K2_L3.out.bel hb)
                        clear K2_L3
                        have PS_38 := hide (PS_L3.out.bel hb)
                        clear PS_L3
                        have HL2_38 := hide (HL2_L3.out.bel hb)
                        clear HL2_L3
                        have x_38 := hide (x_L3.out.bel hb)
                        clear x_L3
                        have HL3_38 := hide (HL3.out.bel hb)
                        clear HL3
                        clear hb
                        have Hy_38 := HN
                        clear HN
                        go_roundg (NK - k3)
                        case measure => omega
                        case rel => exact ⟨k3 + 1, by omega, by omega, by go_num, HL3_38⟩
                      · skip
                        have dx : (u1 == t1) = false := by simpa using ex
                        clear hax
                        go_wp2_with fail
                        clear x0 x1 xf xl
                        clear c0 c1 l2
                        obtain ⟨v37, hW⟩ : ∃ W, W = wr.alloc (.cells #[.int .i64 t1, .int .i64 t2] 38) := ⟨_, rfl⟩
                        obtain ⟨yb, hyb⟩ : ∃ z, z = wr.heap.size := ⟨_, rfl⟩
                        have HN : Hid (BxI v37 yb t1 t2) := by show BxI _ _ _ _; rw [hW, hyb]; exact BxI.new _ _ _ _
                        have hb : Below wr.heap.size wr v37 := by rw [hW]; exact (Below.refl _ _).alloc (Nat.le_refl _) _
                        rw [← hW, ← hyb]
                        clear hW hyb
                        have HB_38 := hide (HB_L3.out.bel hb)
                        clear HB_L3
                        have FL_38 := hide (FL_L3.out.bel hb)
                        clear FL_L3
                        have a_38 := hide (a_L3.out.bel hb)
                        clear a_L3
                        have H1_38 := hide (H1_L3.out.bel hb)
                        clear H1_L3
                        have H2_38 := hide (H2_L3.out.bel hb)
                        clear H2_L3
                        have U2_38 := hide (U2_L3.out.bel hb)
                        clear U2_L3
                        have FV_38 := hide (FV_L3.out.bel hb)
                        clear FV_L3
                        have LI_38 := hide (LI_L3.out.bel hb)
                        clear LI_L3
                        have S2_38 := hide (S2_L3.out.bel hb)
                        clear S2_L3
                        have FX_38 := hide (FX_L3.out.bel hb)
                        clear FX_L3
                        have ST_38 := hide (ST_L3.out.bel hb)
                        clear ST_L3
                        have O2_38 := hide (O2_L3.out.bel hb)
                        clear O2_L3
                        have HL1_38 := hide (HL1_L3.out.bel hb)
                        clear HL1_L3
                        have K2_38 := hide (K2_L3.out.bel hb)
                        clear K2_L3
                        have PS_38 := hide (PS_L3.out.bel hb)
                        clear PS_L3
                        have HL2_38 := hide (HL2_L3.out.bel hb)
                        clear HL2_L3
                        have x_38 := hide (x_L3.out.bel hb)
                        clear x_L3
                        have HL3_38 := hide (HL3.out.bel hb)
                        clear HL3
                        clear hb
                        have Hy_38 := HN
                        clear HN
                        go_roundg (NK - k3)
                        case measure => omega
                        case rel => exact ⟨k3 + 1, by omega, by omega, by go_num, HL3_38⟩
                    · skip
                      have ek3 : NK = k3 := by omega
                      clear hk3n hk3 hgn3
                      subst ek3
                      obtain ⟨hq1, hq2, hq3, hq4, hq5⟩ := HQ.out
                      obtain ⟨ha1, ha2, ha3, ha4⟩ := HAR.out
                      obtain ⟨cs, ls⟩ := SlW.i1 PS_L3.out hq1
                      obtain ⟨cf, lf2⟩ := SlW.s0 FL_L3.out ha1
                      have z1 : IntKind.i64.wrap (u1 * ((F 0).size : Int)) = u1 * ((F 0).size : Int) := IntWalk.i64_in _ (by omega)
                      have z2 : IntKind.i64.wrap (u1 * ((F 0).size : Int) + u2) = (q : Int) := by rw [IntWalk.i64_in _ (by omega)]; exact hq2
                      obtain ⟨sq, hsq⟩ : ∃ z, SO q = z := ⟨_, rfl⟩
                      rw [hsq] at cs hq3
                      have d0 : decide (sq < 0) = false := decide_eq_false (by omega)
                      clear hq2 hq4 hq5 hsq
                      obtain ⟨x0, x1, xf, xl⟩ := x_L3.out
                      go_wp2_with fail
                      (refine wp_region_below_lit (by kernel_rfl) (by kernel_rfl) ?_; (repeat (first | go_big_quiet_step (fail) | quiet_step (fail))); refine wpQuiet_nil ?_; intro w43 hb43; have hz43 := hb43.size; (try (simp at hz43)); obtain ⟨hcw43, hfw43⟩ := bcell hb43; (try (have hy43 : w.heap.size < w43.heap.size := by omega)); (try (have hyy43 : w.heap.size + 1 < w43.heap.size := by omega)))
                      have hb : Below wr.heap.size wr w43 := (by repeat (first | (with_reducible exact Below.refl _ _) | (with_reducible refine below_ov ?_ ?_) | (with_reducible refine Below.setCell ?_ ?_ _) | (with_reducible refine Below.alloc ?_ ?_ _) | (with_reducible refine Below.drew ?_) | (with_reducible refine below_drewN ?_ _) | (refine Below.trans ?_ (Below.mono ‹Below _ _ _› (by first | omega | (simp; done) | (simp; omega)))) | exact Below.refl _ _ | omega | (focus (simp; done)) | (focus (simp; omega))))
                      clear hb43 hcw43 hfw43
                      have HB_37 := hide (HB_L3.out.bel hb)
                      clear HB_L3
                      have FL_37 := hide (FL_L3.out.bel hb)
                      clear FL_L3
                      have a_37 := hide (a_L3.out.bel hb)
                      clear a_L3
                      have H1_37 := hide (H1_L3.out.bel hb)
                      clear H1_L3
                      have H2_37 := hide (H2_L3.out.bel hb)
                      clear H2_L3
                      have U2_37 := hide (U2_L3.out.bel hb)
                      clear U2_L3
                      have FV_37 := hide (FV_L3.out.bel hb)
                      clear FV_L3
                      have LI_37 := hide (LI_L3.out.bel hb)
                      clear LI_L3
                      have S2_37 := hide (S2_L3.out.bel hb)
                      clear S2_L3
                      have FX_37 := hide (FX_L3.out.bel hb)
                      clear FX_L3
                      have ST_37 := hide (ST_L3.out.bel hb)
                      clear ST_L3
                      have O2_37 := hide (O2_L3.out.bel hb)
                      clear O2_L3
                      have HL1_37 := hide (HL1_L3.out.bel hb)
                      clear HL1_L3
                      have K2_37 := hide (K2_L3.out.bel hb)
                      clear K2_L3
                      have PS_37 := hide (PS_L3.out.bel hb)
                      clear PS_L3
                      have HL2_37 := hide (HL2_L3.out.bel hb)
                      clear HL2_L3
                      have x_37 := hide (x_L3.out.bel hb)
                      clear x_L3
                      have HL3_37 := hide (HL3.out.bel hb)
                      clear HL3
                      clear hb
                      clear x0 x1 xf xl
                      clear hz43 z1 z2 cs cf ls lf2
                      go_wp2_with fail
                      go_roundg (NU - k2)
                      case measure => omega
                      case rel => exact ⟨k2 + 1, by omega, by omega, by go_num, HL2_37⟩
                · skip
                  have ek2 : NU = k2 := by omega
                  clear hk2n hk2 hgn2
                  subst ek2
                  go_wp2_with fail
                  go_meet
                  case rel => exact ⟨HB_L2, FL_L2, a_L2, H1_L2, H2_L2, U2_L2, FV_L2, LI_L2, S2_L2, FX_L2, ST_L2, O2_L2⟩
            · skip
              have d1 : decide ((NH : Int) ≤ 1000) = false := decide_eq_false (by omega)
              have d2 : decide (NH ≤ 1000) = false := decide_eq_false (by omega)
              go_wp2_with fail
              go_meet
              case rel => exact ⟨HB_L1, FL_L1, a_L1, H1_L1, H2_L1, U2_L1, FV_L1, LI_L1, S2_L1, FX_L1, ST_L1, O2_L1⟩
    case rest => as_aux_lemma =>
      obtain ⟨HB_26, FL_26, a_26, H1_26, H2_26, U2_26, FV_26, LI_26, S2_26, FX_26, ST_26, O2_26⟩ := hcut
      go_upto_if 299 with fail
      go_cut [] from 43 to 321 (fun wx => Hid (BelW w wx) ∧ Hid (SlW wx 1 (.slice Au n1 cu) n1 (sC F)) ∧ Hid (BxI wx ab r c) ∧ Hid (SlW wx 2 (.slice H1 NH ch1) NH (iiC HR HC)) ∧ Hid (SlW wx 2 (.slice H2 NH ch2) NH (iiC HR HC)) ∧ Hid (SlW wx 2 (.slice U2 NU cu2) NU (iiC UR UC)) ∧ Hid (SlW wx 1 (.slice A2 n2 c2) n2 (sC F2)) ∧ Hid (SlW wx 2 (.slice A3 m3 c3) m3 (iiC p3 q3)) ∧ Hid (SlW wx 2 (.slice S2 NS cs2) NS (iiC SR SC)) ∧ Hid (SlW wx 1 (.slice A4 n4 c4) n4 (sC F4)) ∧ Hid (SlW wx 2 (.slice A5 m5 c5) m5 (iiC p5 q5)) ∧ Hid (SlW wx 1 (.slice O2 NO co2) NO (sC OT)))
      case first => as_aux_lemma =>
        cases so with
        | false =>
          go_wp2_with fail
          go_meet
          case rel => exact ⟨HB_26, FL_26, a_26, H1_26, H2_26, U2_26, FV_26, LI_26, S2_26, FX_26, ST_26, O2_26⟩
        | true =>
          have HLI : Hid (∀ t, t < m3 → hasC SR SC (p3 t) (q3 t) NS = true) := fun t ht => by
            have h := list_in HSO.out ht
            rw [HNS.out, HSR.out, HSC.out] at h
            exact h
          go_wp2_with fail
          go_loopg [302] (m3 + 1) (fun gn iv wr1 => ∃ k1 : Nat, k1 ≤ m3 ∧ m3 - k1 < gn ∧ iv = .int .i64 k1 ∧ Hid (BelW wc wr1))
          case atStart => exact ⟨0, by omega, by omega, rfl, Below.refl _ _⟩
          case round =>
            obtain ⟨k1, hk1, hgn1, rfl, HL1⟩ := hrel
            have hbl : Below wc.heap.size wc wr := HL1.out
            have HB_L1 := hide (HB_26.out.bel hbl)
            have FL_L1 := hide (FL_26.out.bel hbl)
            have a_L1 := hide (a_26.out.bel hbl)
            have H1_L1 := hide (H1_26.out.bel hbl)
            have H2_L1 := hide (H2_26.out.bel hbl)
            have U2_L1 := hide (U2_26.out.bel hbl)
            have FV_L1 := hide (FV_26.out.bel hbl)
            have LI_L1 := hide (LI_26.out.bel hbl)
            have S2_L1 := hide (S2_26.out.bel hbl)
            have FX_L1 := hide (FX_26.out.bel hbl)
            have ST_L1 := hide (ST_26.out.bel hbl)
            have O2_L1 := hide (O2_26.out.bel hbl)
            clear hbl
            clear HB_26 FL_26 a_26 H1_26 H2_26 U2_26 FV_26 LI_26 S2_26 FX_26 ST_26 O2_26
            have hbnd1 := HM3.out
            by_cases hk1n : k1 < m3
            · skip
              obtain ⟨lb, lo3, hlb⟩ := SlW.form LI_L1.out (by omega)
              subst hlb
              obtain ⟨c0, c1, l2⟩ := SlW.ii LI_L1.out hk1n
              have HLX := hide (HLI.out k1 hk1n)
              obtain ⟨x1, hx1⟩ : ∃ z, p3 k1 = z := ⟨_, rfl⟩
              obtain ⟨x2, hx2⟩ : ∃ z, q3 k1 = z := ⟨_, rfl⟩
              rw [hx1] at c0 HLX
              rw [hx2] at c1 HLX
              clear hx1 hx2
              go_wp2_with fail
              obtain ⟨v27, hW⟩ : ∃ W, W = wr.alloc (.cells #[.int .i64 x1, .int .i64 x2] 38) := ⟨_, rfl⟩
              obtain ⟨xb, hxb⟩ : ∃ z, z = wr.heap.size := ⟨_, rfl⟩
              have HN : Hid (BxI v27 xb x1 x2) := by show BxI _ _ _ _; rw [hW, hxb]; exact BxI.new _ _ _ _
              have hb : Below wr.heap.size wr v27 := by rw [hW]; exact (Below.refl _ _).alloc (Nat.le_refl _) _
              rw [← hW, ← hxb]
              clear hW hxb
              have HB_28 := hide (HB_L1.out.bel hb)
              clear HB_L1
              have FL_28 := hide (FL_L1.out.bel hb)
              clear FL_L1
              have a_28 := hide (a_L1.out.bel hb)
              clear a_L1
              have H1_28 := hide (H1_L1.out.bel hb)
              clear H1_L1
              have H2_28 := hide (H2_L1.out.bel hb)
              clear H2_L1
              have U2_28 := hide (U2_L1.out.bel hb)
              clear U2_L1
              have FV_28 := hide (FV_L1.out.bel hb)
              clear FV_L1
              have LI_28 := hide (LI_L1.out.bel hb)
              clear LI_L1
              have S2_28 := hide (S2_L1.out.bel hb)
              clear S2_L1
              have FX_28 := hide (FX_L1.out.bel hb)
              clear FX_L1
              have ST_28 := hide (ST_L1.out.bel hb)
              clear ST_L1
              have O2_28 := hide (O2_L1.out.bel hb)
              clear O2_L1
              have HL1_28 := hide (HL1.out.bel hb)
              clear HL1
              clear hb
              have Hx_28 := HN
              clear HN
              clear c0 c1 l2
              go_wp2_with fail
              go_loopg [44, 308] (NS + 1) (fun gn fv iv wr2 => ∃ k2 : Nat, k2 ≤ NS ∧ NS - k2 < gn ∧ (∃ fb : Bool, fv = .bool fb ∧ Hid (hasC SR SC x1 x2 k2 = fb)) ∧ iv = .int .i64 k2 ∧ Hid (BelW v27 wr2))
              case atStart => exact ⟨0, by omega, by omega, ⟨false, rfl, hasC_zero⟩, rfl, Below.refl _ _⟩
              case round =>
                obtain ⟨k2, hk2, hgn2, ⟨fb, rfl, HFD⟩, rfl, HL2⟩ := hrel
                have hbl : Below v27.heap.size v27 wr := HL2.out
                have HB_L2 := hide (HB_28.out.bel hbl)
                have FL_L2 := hide (FL_28.out.bel hbl)
                have a_L2 := hide (a_28.out.bel hbl)
                have H1_L2 := hide (H1_28.out.bel hbl)
                have H2_L2 := hide (H2_28.out.bel hbl)
                have U2_L2 := hide (U2_28.out.bel hbl)
                have FV_L2 := hide (FV_28.out.bel hbl)
                have LI_L2 := hide (LI_28.out.bel hbl)
                have S2_L2 := hide (S2_28.out.bel hbl)
                have FX_L2 := hide (FX_28.out.bel hbl)
                have ST_L2 := hide (ST_28.out.bel hbl)
                have O2_L2 := hide (O2_28.out.bel hbl)
                have HL1_L2 := hide (HL1_28.out.bel hbl)
                have x_L2 := hide (Hx_28.out.bel hbl)
                clear hbl
                clear HB_28 FL_28 a_28 H1_28 H2_28 U2_28 FV_28 LI_28 S2_28 FX_28 ST_28 O2_28 Hx_28
                have hbnd2 := HN4.out
                by_cases hk2n : k2 < NS
                · skip
                  obtain ⟨kb, ko, hkb⟩ := SlW.form S2_L2.out (by omega)
                  subst hkb
                  obtain ⟨c0, c1, l2⟩ := SlW.ii S2_L2.out hk2n
                  have hsn := hasC_snoc (p := SR) (q := SC) (x := x1) (y := x2) (m := k2)
                  rw [HFD.out] at hsn
                  obtain ⟨t1, ht1⟩ : ∃ z, SR k2 = z := ⟨_, rfl⟩
                  obtain ⟨t2, ht2⟩ : ∃ z, SC k2 = z := ⟨_, rfl⟩
                  rw [ht1, ht2] at hsn
                  rw [ht1] at c0
                  rw [ht2] at c1
                  clear ht1 ht2 HFD
                  cases fb with
                  | true =>
                    have HSN : Hid (hasC SR SC x1 x2 (k2 + 1) = true) := by show _ = _; rw [hsn]; rfl
                    clear hsn
                    obtain ⟨x0, x1, xf, xl⟩ := x_L2.out
                    go_wp2_with fail
                    clear x0 x1 xf xl
                    clear c0 c1 l2
                    obtain ⟨v29, hW⟩ : ∃ W, W = wr.alloc (.cells #[.int .i64 t1, .int .i64 t2] 38) := ⟨_, rfl⟩
                    obtain ⟨yb, hyb⟩ : ∃ z, z = wr.heap.size := ⟨_, rfl⟩
                    have HN : Hid (BxI v29 yb t1 t2) := by show BxI _ _ _ _; rw [hW, hyb]; exact BxI.new _ _ _ _
                    have hb : Below wr.heap.size wr v29 := by rw [hW]; exact (Below.refl _ _).alloc (Nat.le_refl _) _
                    rw [← hW, ← hyb]
                    clear hW hyb
                    have HB_30 := hide (HB_L2.out.bel hb)
                    clear HB_L2
                    have FL_30 := hide (FL_L2.out.bel hb)
                    clear FL_L2
                    have a_30 := hide (a_L2.out.bel hb)
                    clear a_L2
                    have H1_30 := hide (H1_L2.out.bel hb)
                    clear H1_L2
                    have H2_30 := hide (H2_L2.out.bel hb)
                    clear H2_L2
                    have U2_30 := hide (U2_L2.out.bel hb)
                    clear U2_L2
                    have FV_30 := hide (FV_L2.out.bel hb)
                    clear FV_L2
                    have LI_30 := hide (LI_L2.out.bel hb)
                    clear LI_L2
                    have S2_30 := hide (S2_L2.out.bel hb)
                    clear S2_L2
                    have FX_30 := hide (FX_L2.out.bel hb)
                    clear FX_L2
                    have ST_30 := hide (ST_L2.out.bel hb)
                    clear ST_L2
                    have O2_30 := hide (O2_L2.out.bel hb)
                    clear O2_L2
                    have HL1_30 := hide (HL1_L2.out.bel hb)
                    clear HL1_L2
                    have x_30 := hide (x_L2.out.bel hb)
                    clear x_L2
                    have HL2_30 := hide (HL2.out.bel hb)
                    clear HL2
                    clear hb
                    have Hy_30 := HN
                    clear HN
                    go_roundg (NS - k2)
                    case measure => omega
                    case rel => exact ⟨k2 + 1, by omega, by omega, ⟨true, rfl, HSN⟩, by go_num, HL2_30⟩
                  | false =>
                    by_cases ex : x1 = t1
                    · skip
                      subst ex
                      by_cases ey : x2 = t2
                      · skip
                        subst ey
                        have HSN : Hid (hasC SR SC x1 x2 (k2 + 1) = true) := by show _ = _; rw [hsn]; simp
                        clear hsn
                        obtain ⟨x0, x1, xf, xl⟩ := x_L2.out
                        go_wp2_with fail
                        clear x0 x1 xf xl
                        clear c0 c1 l2
                        obtain ⟨v29, hW⟩ : ∃ W, W = wr.alloc (.cells #[.int .i64 x1, .int .i64 x2] 38) := ⟨_, rfl⟩
                        obtain ⟨yb, hyb⟩ : ∃ z, z = wr.heap.size := ⟨_, rfl⟩
                        have HN : Hid (BxI v29 yb x1 x2) := by show BxI _ _ _ _; rw [hW, hyb]; exact BxI.new _ _ _ _
                        have hb : Below wr.heap.size wr v29 := by rw [hW]; exact (Below.refl _ _).alloc (Nat.le_refl _) _
                        rw [← hW, ← hyb]
                        clear hW hyb
                        have HB_30 := hide (HB_L2.out.bel hb)
                        clear HB_L2
                        have FL_30 := hide (FL_L2.out.bel hb)
                        clear FL_L2
                        have a_30 := hide (a_L2.out.bel hb)
                        clear a_L2
                        have H1_30 := hide (H1_L2.out.bel hb)
                        clear H1_L2
                        have H2_30 := hide (H2_L2.out.bel hb)
                        clear H2_L2
                        have U2_30 := hide (U2_L2.out.bel hb)
                        clear U2_L2
                        have FV_30 := hide (FV_L2.out.bel hb)
                        clear FV_L2
                        have LI_30 := hide (LI_L2.out.bel hb)
                        clear LI_L2
                        have S2_30 := hide (S2_L2.out.bel hb)
                        clear S2_L2
                        have FX_30 := hide (FX_L2.out.bel hb)
                        clear FX_L2
                        have ST_30 := hide (ST_L2.out.bel hb)
                        clear ST_L2
                        have O2_30 := hide (O2_L2.out.bel hb)
                        clear O2_L2
                        have HL1_30 := hide (HL1_L2.out.bel hb)
                        clear HL1_L2
                        have x_30 := hide (x_L2.out.bel hb)
                        clear x_L2
                        have HL2_30 := hide (HL2.out.bel hb)
                        clear HL2
                        clear hb
                        have Hy_30 := HN
                        clear HN
                        go_roundg (NS - k2)
                        case measure => omega
                        case rel => exact ⟨k2 + 1, by omega, by omega, ⟨true, by simp, HSN⟩, by go_num, HL2_30⟩
                      · skip
                        have ey' : (x2 == t2) = false := by simpa using ey
                        have HSN : Hid (hasC SR SC x1 x2 (k2 + 1) = false) := by show _ = _; rw [hsn]; simp [Ne.symm ey]
                        clear hsn
                        obtain ⟨x0, x1, xf, xl⟩ := x_L2.out
                        go_wp2_with fail
                        clear x0 x1 xf xl
                        clear c0 c1 l2
                        obtain ⟨v29, hW⟩ : ∃ W, W = wr.alloc (.cells #[.int .i64 x1, .int .i64 t2] 38) := ⟨_, rfl⟩
                        obtain ⟨yb, hyb⟩ : ∃ z, z = wr.heap.size := ⟨_, rfl⟩
                        have HN : Hid (BxI v29 yb x1 t2) := by show BxI _ _ _ _; rw [hW, hyb]; exact BxI.new _ _ _ _
                        have hb : Below wr.heap.size wr v29 := by rw [hW]; exact (Below.refl _ _).alloc (Nat.le_refl _) _
                        rw [← hW, ← hyb]
                        clear hW hyb
                        have HB_30 := hide (HB_L2.out.bel hb)
                        clear HB_L2
                        have FL_30 := hide (FL_L2.out.bel hb)
                        clear FL_L2
                        have a_30 := hide (a_L2.out.bel hb)
                        clear a_L2
                        have H1_30 := hide (H1_L2.out.bel hb)
                        clear H1_L2
                        have H2_30 := hide (H2_L2.out.bel hb)
                        clear H2_L2
                        have U2_30 := hide (U2_L2.out.bel hb)
                        clear U2_L2
                        have FV_30 := hide (FV_L2.out.bel hb)
                        clear FV_L2
                        have LI_30 := hide (LI_L2.out.bel hb)
                        clear LI_L2
                        have S2_30 := hide (S2_L2.out.bel hb)
                        clear S2_L2
                        have FX_30 := hide (FX_L2.out.bel hb)
                        clear FX_L2
                        have ST_30 := hide (ST_L2.out.bel hb)
                        clear ST_L2
                        have O2_30 := hide (O2_L2.out.bel hb)
                        clear O2_L2
                        have HL1_30 := hide (HL1_L2.out.bel hb)
                        clear HL1_L2
                        have x_30 := hide (x_L2.out.bel hb)
                        clear x_L2
                        have HL2_30 := hide (HL2.out.bel hb)
                        clear HL2
                        clear hb
                        have Hy_30 := HN
                        clear HN
                        go_roundg (NS - k2)
                        case measure => omega
                        case rel => exact ⟨k2 + 1, by omega, by omega, ⟨false, by simp [ey], HSN⟩, by go_num, HL2_30⟩
                    · skip
                      have ex' : (x1 == t1) = false := by simpa using ex
                      have HSN : Hid (hasC SR SC x1 x2 (k2 + 1) = false) := by show _ = _; rw [hsn]; simp [Ne.symm ex]
                      clear hsn
                      obtain ⟨x0, x1, xf, xl⟩ := x_L2.out
                      go_wp2_with fail
                      clear x0 x1 xf xl
                      clear c0 c1 l2
                      obtain ⟨v29, hW⟩ : ∃ W, W = wr.alloc (.cells #[.int .i64 t1, .int .i64 t2] 38) := ⟨_, rfl⟩
                      obtain ⟨yb, hyb⟩ : ∃ z, z = wr.heap.size := ⟨_, rfl⟩
                      have HN : Hid (BxI v29 yb t1 t2) := by show BxI _ _ _ _; rw [hW, hyb]; exact BxI.new _ _ _ _
                      have hb : Below wr.heap.size wr v29 := by rw [hW]; exact (Below.refl _ _).alloc (Nat.le_refl _) _
                      rw [← hW, ← hyb]
                      clear hW hyb
                      have HB_30 := hide (HB_L2.out.bel hb)
                      clear HB_L2
                      have FL_30 := hide (FL_L2.out.bel hb)
                      clear FL_L2
                      have a_30 := hide (a_L2.out.bel hb)
                      clear a_L2
                      have H1_30 := hide (H1_L2.out.bel hb)
                      clear H1_L2
                      have H2_30 := hide (H2_L2.out.bel hb)
                      clear H2_L2
                      have U2_30 := hide (U2_L2.out.bel hb)
                      clear U2_L2
                      have FV_30 := hide (FV_L2.out.bel hb)
                      clear FV_L2
                      have LI_30 := hide (LI_L2.out.bel hb)
                      clear LI_L2
                      have S2_30 := hide (S2_L2.out.bel hb)
                      clear S2_L2
                      have FX_30 := hide (FX_L2.out.bel hb)
                      clear FX_L2
                      have ST_30 := hide (ST_L2.out.bel hb)
                      clear ST_L2
                      have O2_30 := hide (O2_L2.out.bel hb)
                      clear O2_L2
                      have HL1_30 := hide (HL1_L2.out.bel hb)
                      clear HL1_L2
                      have x_30 := hide (x_L2.out.bel hb)
                      clear x_L2
                      have HL2_30 := hide (HL2.out.bel hb)
                      clear HL2
                      clear hb
                      have Hy_30 := HN
                      clear HN
                      go_roundg (NS - k2)
                      case measure => omega
                      case rel => exact ⟨k2 + 1, by omega, by omega, ⟨false, by simp [ex], HSN⟩, by go_num, HL2_30⟩
                · skip
                  have ek2 : k2 = NS := by omega
                  rw [ek2, HLX.out] at HFD
                  obtain rfl : true = fb := HFD.out
                  clear HFD
                  go_wp2_with fail
                  go_roundg (m3 - k1)
                  case measure => omega
                  case rel => exact ⟨k1 + 1, by omega, by omega, by go_num, HL1_L2⟩
            · skip
              have ek : m3 = k1 := by omega
              clear hk1n hk1 hgn1
              subst ek
              go_wp2_with fail
              go_meet
              case rel => exact ⟨HB_L1, FL_L1, a_L1, H1_L1, H2_L1, U2_L1, FV_L1, LI_L1, S2_L1, FX_L1, ST_L1, O2_L1⟩
      case rest => as_aux_lemma =>
        obtain ⟨HB_27, FL_27, a_27, H1_27, H2_27, U2_27, FV_27, LI_27, S2_27, FX_27, ST_27, O2_27⟩ := hcut
        go_upto_if 322 with fail
        go_cut [] from 47 to 399 (fun wx => Hid (BelW w wx) ∧ Hid (SlW wx 1 (.slice Au n1 cu) n1 (sC F)) ∧ Hid (BxI wx ab r c) ∧ Hid (SlW wx 2 (.slice H1 NH ch1) NH (iiC HR HC)) ∧ Hid (SlW wx 2 (.slice H2 NH ch2) NH (iiC HR HC)) ∧ Hid (SlW wx 2 (.slice U2 NU cu2) NU (iiC UR UC)) ∧ Hid (SlW wx 1 (.slice A2 n2 c2) n2 (sC F2)) ∧ Hid (SlW wx 2 (.slice A3 m3 c3) m3 (iiC p3 q3)) ∧ Hid (SlW wx 2 (.slice S2 NS cs2) NS (iiC SR SC)) ∧ Hid (SlW wx 1 (.slice A4 n4 c4) n4 (sC F4)) ∧ Hid (SlW wx 2 (.slice A5 m5 c5) m5 (iiC p5 q5)) ∧ Hid (SlW wx 1 (.slice O2 NO co2) NO (sC OT)))
        case first => as_aux_lemma =>
          cases sh with
          | false =>
            go_wp2_with fail
            go_meet
            case rel => exact ⟨HB_27, FL_27, a_27, H1_27, H2_27, U2_27, FV_27, LI_27, S2_27, FX_27, ST_27, O2_27⟩
          | true =>
            obtain ⟨hs1, ⟨hs2, hs3⟩, hs4⟩ := sh_facts HSH.out
            obtain ⟨g1, g2, g3, g4, g5, _⟩ := flB_facts hs1
            have har := fl_area hs1
            have HNO2 : Hid (NO = n4) := by show _ = _; rw [← HNO.out, shN, if_pos HSH.out]
            have HST : Hid (∀ i, i < m5 → ∃ x y : Nat, p5 i = x ∧ q5 i = y ∧ x < n4 ∧ y < (F4 0).size ∧ byteAt (OT x) y = 97 + (i : Int)) := fun i hi => by
              have h := share_start HSH.out hi
              rw [HOT.out] at h
              exact h
            have HSL : Hid (∀ i, i < m5 → ∀ k, k < n4 * (F4 0).size → 0 ≤ sfO F4 n4 (p5 i) (q5 i) k → 97 ≤ byteAt (OT (k / (F4 0).size)) (k % (F4 0).size) ∧ byteAt (OT (k / (F4 0).size)) (k % (F4 0).size) ≤ 104) := fun i hi k hk h0 => by
              have h := share_letter HSH.out hi hk h0
              rw [HOT.out] at h
              exact h
            have HSF : Hid (∀ i, i < m5 → sfOk F4 n4 (p5 i) (q5 i) = true) := fun i hi => by
              show _ = _
              rw [sfOk, hs1, (hs4 i hi).1]; rfl
            have HAR : Hid (m5 ≤ 8 ∧ 1 ≤ n4 ∧ n4 ≤ 12 ∧ 1 ≤ (F4 0).size ∧ (F4 0).size ≤ 12 ∧ 1 ≤ n4 * (F4 0).size ∧ n4 * (F4 0).size ≤ 144) := ⟨hs3, g1, g2, g3, g4, har.1, har.2⟩
            have HSZ : Hid (∀ i, i < n4 → (OT i).size = (F4 0).size) := fun i hi => by
              show _ = _
              rw [← HOT.out, shT_size]
            clear hs1 hs2 hs3 hs4 g1 g2 g3 g4 g5 har
            obtain ⟨fbk, fof, hfbk⟩ := SlW.form FX_27.out (by have := HAR.out; omega)
            subst hfbk
            obtain ⟨obk, oof, hobk⟩ := SlW.form O2_27.out (by have := HAR.out; have := HNO2.out; omega)
            subst hobk
            go_wp2_with fail
            go_loopg [325] (m5 + 1) (fun gn iv wr1 => ∃ k1 : Nat, k1 ≤ m5 ∧ m5 - k1 < gn ∧ iv = .int .i64 k1 ∧ Hid (BelW wc wr1))
            case atStart => exact ⟨0, by omega, by omega, rfl, Below.refl _ _⟩
            case round =>
              obtain ⟨k1, hk1, hgn1, rfl, HL1⟩ := hrel
              have hbl : Below wc.heap.size wc wr := HL1.out
              have HB_L1 := hide (HB_27.out.bel hbl)
              have FL_L1 := hide (FL_27.out.bel hbl)
              have a_L1 := hide (a_27.out.bel hbl)
              have H1_L1 := hide (H1_27.out.bel hbl)
              have H2_L1 := hide (H2_27.out.bel hbl)
              have U2_L1 := hide (U2_27.out.bel hbl)
              have FV_L1 := hide (FV_27.out.bel hbl)
              have LI_L1 := hide (LI_27.out.bel hbl)
              have S2_L1 := hide (S2_27.out.bel hbl)
              have FX_L1 := hide (FX_27.out.bel hbl)
              have ST_L1 := hide (ST_27.out.bel hbl)
              have O2_L1 := hide (O2_27.out.bel hbl)
              clear hbl
              clear HB_27 FL_27 a_27 H1_27 H2_27 U2_27 FV_27 LI_27 S2_27 FX_27 ST_27 O2_27
              have hbnd1 := HM5.out
              by_cases hk1n : k1 < m5
              · skip
                obtain ⟨lb, lo3, hlb⟩ := SlW.form ST_L1.out (by omega)
                subst hlb
                obtain ⟨c0, c1, l2⟩ := SlW.ii ST_L1.out hk1n
                have HK1 := hide hk1n
                obtain ⟨x, y, hx, hy, hxn, hyW, hby⟩ := HST.out k1 hk1n
                have HSFX := hide (HSF.out k1 hk1n)
                have HSLX := hide (HSL.out k1 hk1n)
                rw [hx] at c0 HSFX HSLX
                rw [hy] at c1 HSFX HSLX
                clear hx hy
                go_wp2_with fail
                obtain ⟨v28, hW⟩ : ∃ W, W = wr.alloc (.cells #[.int .i64 (x : Nat), .int .i64 (y : Nat)] 38) := ⟨_, rfl⟩
                obtain ⟨xb, hxb⟩ : ∃ z, z = wr.heap.size := ⟨_, rfl⟩
                have HN : Hid (BxI v28 xb (x : Nat) (y : Nat)) := by show BxI _ _ _ _; rw [hW, hxb]; exact BxI.new _ _ _ _
                have hb : Below wr.heap.size wr v28 := by rw [hW]; exact (Below.refl _ _).alloc (Nat.le_refl _) _
                rw [← hW, ← hxb]
                clear hW hxb
                have HB_29 := hide (HB_L1.out.bel hb)
                clear HB_L1
                have FL_29 := hide (FL_L1.out.bel hb)
                clear FL_L1
                have a_29 := hide (a_L1.out.bel hb)
                clear a_L1
                have H1_29 := hide (H1_L1.out.bel hb)
                clear H1_L1
                have H2_29 := hide (H2_L1.out.bel hb)
                clear H2_L1
                have U2_29 := hide (U2_L1.out.bel hb)
                clear U2_L1
                have FV_29 := hide (FV_L1.out.bel hb)
                clear FV_L1
                have LI_29 := hide (LI_L1.out.bel hb)
                clear LI_L1
                have S2_29 := hide (S2_L1.out.bel hb)
                clear S2_L1
                have FX_29 := hide (FX_L1.out.bel hb)
                clear FX_L1
                have ST_29 := hide (ST_L1.out.bel hb)
                clear ST_L1
                have O2_29 := hide (O2_L1.out.bel hb)
                clear O2_L1
                have HL1_29 := hide (HL1.out.bel hb)
                clear HL1
                clear hb
                have Hx_29 := HN
                clear HN
                clear c0 c1 l2
                obtain ⟨SO, hSO⟩ : ∃ z, sfO F4 n4 (x : Nat) (y : Nat) = z := ⟨_, rfl⟩
                have HSOO := hide hSO
                clear hSO
                have HNT : Hid (sfN F4 n4 (x : Nat) (y : Nat) = n4 * (F4 0).size) := by show _ = _; rw [sfN, if_pos HSFX.out]
                refine (StepsFrom_spec F4 n4 (x : Nat) (y : Nat) 0 _ _ _ FX_29.out (Nat.le_refl _) HF4.out).mono ?_
                rintro e v30 ⟨st, rfl, ho, hb⟩
                rw [HSFX.out]
                rw [HNT.out, HSOO.out] at ho
                rw [HSOO.out] at HSLX
                have HB_31 := hide (HB_29.out.bel hb)
                clear HB_29
                have FL_31 := hide (FL_29.out.bel hb)
                clear FL_29
                have a_31 := hide (a_29.out.bel hb)
                clear a_29
                have H1_31 := hide (H1_29.out.bel hb)
                clear H1_29
                have H2_31 := hide (H2_29.out.bel hb)
                clear H2_29
                have U2_31 := hide (U2_29.out.bel hb)
                clear U2_29
                have FV_31 := hide (FV_29.out.bel hb)
                clear FV_29
                have LI_31 := hide (LI_29.out.bel hb)
                clear LI_29
                have S2_31 := hide (S2_29.out.bel hb)
                clear S2_29
                have FX_31 := hide (FX_29.out.bel hb)
                clear FX_29
                have ST_31 := hide (ST_29.out.bel hb)
                clear ST_29
                have O2_31 := hide (O2_29.out.bel hb)
                clear O2_29
                have HL1_31 := hide (HL1_29.out.bel hb)
                clear HL1_29
                have x_31 := hide (Hx_29.out.bel hb)
                clear Hx_29
                obtain ⟨PS, cps, rfl, _, _⟩ := id ho.sl.open_
                have PS_s : Hid (SlW v30 1 (.slice PS (n4 * (F4 0).size) cps) (n4 * (F4 0).size) (iC SO)) := SlW.of ho.sl (Nat.le_refl _)
                clear ho hb
                obtain ⟨pbk, pof, hpbk⟩ := SlW.form PS_s.out (by have := HAR.out; omega)
                subst hpbk
                have hno := HNO2.out
                obtain ⟨ha1, ha2, ha3, ha4, ha5, ha6, ha7⟩ := HAR.out
                obtain ⟨co, lo⟩ := SlW.s1 O2_31.out (k := x) (by omega)
                have hxo : x < NO := by omega
                have hyo : y < (OT x).size := by rw [HSZ.out x hxn]; exact hyW
                have hk8 : k1 < 8 := by omega
                have hb2 := byteAt_eq hyo
                rw [hby] at hb2
                obtain ⟨lb8, hlit, hlit2, hlit3⟩ := srAbc hk8
                have hE : (OT x)[y] = lb8 := UInt8.toNat_inj.1 (by omega)
                clear hb2 hby hno hlit3
                obtain ⟨x0, x1, xf, xl⟩ := x_31.out
                go_wp2_with fail
                (refine wp_region_below_lit (by kernel_rfl) (by kernel_rfl) ?_; (repeat (first | go_big_quiet_step (fail) | quiet_step (fail))); refine wpQuiet_nil ?_; intro w64 hb64; have hz64 := hb64.size; (try (simp at hz64)); obtain ⟨hcw64, hfw64⟩ := bcell hb64; (try (have hy64 : w.heap.size < w64.heap.size := by omega)); (try (have hyy64 : w.heap.size + 1 < w64.heap.size := by omega)))
                have hb : Below v30.heap.size v30 w64 := (by repeat (first | (with_reducible exact Below.refl _ _) | (with_reducible refine below_ov ?_ ?_) | (with_reducible refine Below.setCell ?_ ?_ _) | (with_reducible refine Below.alloc ?_ ?_ _) | (with_reducible refine Below.drew ?_) | (with_reducible refine below_drewN ?_ _) | (refine Below.trans ?_ (Below.mono ‹Below _ _ _› (by first | omega | (simp; done) | (simp; omega)))) | exact Below.refl _ _ | omega | (focus (simp; done)) | (focus (simp; omega))))
                clear hb64 hcw64 hfw64
                have HB_32 := hide (HB_31.out.bel hb)
                clear HB_31
                have FL_32 := hide (FL_31.out.bel hb)
                clear FL_31
                have a_32 := hide (a_31.out.bel hb)
                clear a_31
                have H1_32 := hide (H1_31.out.bel hb)
                clear H1_31
                have H2_32 := hide (H2_31.out.bel hb)
                clear H2_31
                have U2_32 := hide (U2_31.out.bel hb)
                clear U2_31
                have FV_32 := hide (FV_31.out.bel hb)
                clear FV_31
                have LI_32 := hide (LI_31.out.bel hb)
                clear LI_31
                have S2_32 := hide (S2_31.out.bel hb)
                clear S2_31
                have FX_32 := hide (FX_31.out.bel hb)
                clear FX_31
                have ST_32 := hide (ST_31.out.bel hb)
                clear ST_31
                have O2_32 := hide (O2_31.out.bel hb)
                clear O2_31
                have HL1_32 := hide (HL1_31.out.bel hb)
                clear HL1_31
                have x_32 := hide (x_31.out.bel hb)
                clear x_31
                have PS_32 := hide (PS_s.out.bel hb)
                clear PS_s
                clear hb
                clear x0 x1 xf xl
                clear hz64 co lo hyo hxo hlit hlit2 hE
                go_wp2_with fail
                go_loopg [353] ((n4 * (F4 0).size) + 1) (fun gn iv wr2 => ∃ k2 : Nat, k2 ≤ (n4 * (F4 0).size) ∧ (n4 * (F4 0).size) - k2 < gn ∧ iv = .int .i64 k2 ∧ Hid (BelW w64 wr2))
                case atStart => exact ⟨0, by omega, by omega, rfl, Below.refl _ _⟩
                case round =>
                  obtain ⟨k2, hk2, hgn2, rfl, HL2⟩ := hrel
                  have hbl : Below w64.heap.size w64 wr := HL2.out
                  have HB_L2 := hide (HB_32.out.bel hbl)
                  have FL_L2 := hide (FL_32.out.bel hbl)
                  have a_L2 := hide (a_32.out.bel hbl)
                  have H1_L2 := hide (H1_32.out.bel hbl)
                  have H2_L2 := hide (H2_32.out.bel hbl)
                  have U2_L2 := hide (U2_32.out.bel hbl)
                  have FV_L2 := hide (FV_32.out.bel hbl)
                  have LI_L2 := hide (LI_32.out.bel hbl)
                  have S2_L2 := hide (S2_32.out.bel hbl)
                  have FX_L2 := hide (FX_32.out.bel hbl)
                  have ST_L2 := hide (ST_32.out.bel hbl)
                  have O2_L2 := hide (O2_32.out.bel hbl)
                  have HL1_L2 := hide (HL1_32.out.bel hbl)
                  have x_L2 := hide (x_32.out.bel hbl)
                  have PS_L2 := hide (PS_32.out.bel hbl)
                  clear hbl
                  clear HB_32 FL_32 a_32 H1_32 H2_32 U2_32 FV_32 LI_32 S2_32 FX_32 ST_32 O2_32 x_32 PS_32
                  have hbnd2 := HAR.out.2.2.2.2.2.2
                  by_cases hk2n : k2 < (n4 * (F4 0).size)
                  · skip
                    obtain ⟨cs, ls⟩ := SlW.i1 PS_L2.out hk2n
                    have hsl := HSLX.out k2 hk2n
                    obtain ⟨nn, hnn⟩ : ∃ z, SO k2 = z := ⟨_, rfl⟩
                    rw [hnn] at cs hsl
                    clear hnn
                    by_cases hn0 : 0 ≤ nn
                    · skip
                      obtain ⟨hl1, hl2⟩ := hsl hn0
                      clear hsl
                      have d0 : decide (0 ≤ nn) = true := decide_eq_true (by omega)
                      have hxx : k2 / (F4 0).size < n4 := Nat.div_lt_of_lt_mul (by rw [Nat.mul_comm]; exact hk2n)
                      have hyy : k2 % (F4 0).size < (F4 0).size := Nat.mod_lt _ (by omega)
                      obtain ⟨x5, hx5⟩ : ∃ z, k2 / (F4 0).size = z := ⟨_, rfl⟩
                      obtain ⟨y5, hy5⟩ : ∃ z, k2 % (F4 0).size = z := ⟨_, rfl⟩
                      have q1 : (k2 : Int).tdiv ((F4 0).size : Int) = (x5 : Int) := by rw [Int.tdiv_eq_ediv_of_nonneg (by omega), ← Int.natCast_ediv, hx5]
                      have q2 : (k2 : Int).tmod ((F4 0).size : Int) = (y5 : Int) := by rw [Int.tmod_eq_emod_of_nonneg (by omega), ← Int.natCast_emod, hy5]
                      have q3 : (k2 : Int) / ((F4 0).size : Int) = (x5 : Int) := by rw [← Int.natCast_ediv, hx5]
                      have q4 : (k2 : Int) % ((F4 0).size : Int) = (y5 : Int) := by rw [← Int.natCast_emod, hy5]
                      rw [hx5] at hl1 hl2 hxx
                      rw [hy5] at hl1 hl2 hyy
                      clear hx5 hy5
                      have hno := HNO2.out
                      obtain ⟨co, lo⟩ := SlW.s1 O2_L2.out (k := x5) (by omega)
                      obtain ⟨cf, lf2⟩ := SlW.s0 FX_L2.out (by omega)
                      have hxo : x5 < NO := by omega
                      have hyo : y5 < (OT x5).size := by rw [HSZ.out x5 hxx]; exact hyy
                      have hb2 := byteAt_eq hyo
                      rw [← hb2] at hl1 hl2
                      obtain ⟨bt, hbt⟩ : ∃ z, (OT x5)[y5].toNat = z := ⟨_, rfl⟩
                      rw [hbt] at hl1 hl2
                      have e1 : decide ((bt : Int) < 97) = false := decide_eq_false (by omega)
                      have e2 : decide ((104 : Int) < (bt : Int)) = false := decide_eq_false (by omega)
                      have e3 : decide (bt < 97) = false := decide_eq_false (by omega)
                      have e4 : decide (104 < bt) = false := decide_eq_false (by omega)
                      have hW0 : ¬ ((F4 0).size : Int) = 0 := by omega
                      have hW1 : ¬ (F4 0).size = 0 := by omega
                      clear hb2 hno hl1 hl2
                      have wq : IntKind.i64.wrap (x5 : Int) = (x5 : Int) := IntWalk.i64_in _ (by omega)
                      have wr_ : IntKind.i64.wrap (y5 : Int) = (y5 : Int) := IntWalk.i64_in _ (by omega)
                      go_wp2_with fail
                      (refine wp_region_below_lit (by kernel_rfl) (by kernel_rfl) ?_; (repeat (first | go_big_quiet_step (fail) | quiet_step (fail))); refine wpQuiet_nil ?_; intro w69 hb69; have hz69 := hb69.size; (try (simp at hz69)); obtain ⟨hcw69, hfw69⟩ := bcell hb69; (try (have hy69 : w.heap.size < w69.heap.size := by omega)); (try (have hyy69 : w.heap.size + 1 < w69.heap.size := by omega)))
                      have hb : Below wr.heap.size wr w69 := (by repeat (first | (with_reducible exact Below.refl _ _) | (with_reducible refine below_ov ?_ ?_) | (with_reducible refine Below.setCell ?_ ?_ _) | (with_reducible refine Below.alloc ?_ ?_ _) | (with_reducible refine Below.drew ?_) | (with_reducible refine below_drewN ?_ _) | (refine Below.trans ?_ (Below.mono ‹Below _ _ _› (by first | omega | (simp; done) | (simp; omega)))) | exact Below.refl _ _ | omega | (focus (simp; done)) | (focus (simp; omega))))
                      clear hb69 hcw69 hfw69
                      have HB_33 := hide (HB_L2.out.bel hb)
                      clear HB_L2
                      have FL_33 := hide (FL_L2.out.bel hb)
                      clear FL_L2
                      have a_33 := hide (a_L2.out.bel hb)
                      clear a_L2
                      have H1_33 := hide (H1_L2.out.bel hb)
                      clear H1_L2
                      have H2_33 := hide (H2_L2.out.bel hb)
                      clear H2_L2
                      have U2_33 := hide (U2_L2.out.bel hb)
                      clear U2_L2
                      have FV_33 := hide (FV_L2.out.bel hb)
                      clear FV_L2
                      have LI_33 := hide (LI_L2.out.bel hb)
                      clear LI_L2
                      have S2_33 := hide (S2_L2.out.bel hb)
                      clear S2_L2
                      have FX_33 := hide (FX_L2.out.bel hb)
                      clear FX_L2
                      have ST_33 := hide (ST_L2.out.bel hb)
                      clear ST_L2
                      have O2_33 := hide (O2_L2.out.bel hb)
                      clear O2_L2
                      have HL1_33 := hide (HL1_L2.out.bel hb)
                      clear HL1_L2
                      have x_33 := hide (x_L2.out.bel hb)
                      clear x_L2
                      have PS_33 := hide (PS_L2.out.bel hb)
                      clear PS_L2
                      have HL2_33 := hide (HL2.out.bel hb)
                      clear HL2
                      clear hb
                      clear hz69
                      go_wp2_with fail
                      go_roundg ((n4 * (F4 0).size) - k2)
                      case measure => omega
                      case rel => exact ⟨k2 + 1, by omega, by omega, by go_num, HL2_33⟩
                    · skip
                      have d0 : decide (0 ≤ nn) = false := decide_eq_false (by omega)
                      clear hsl
                      go_wp2_with fail
                      (refine wp_region_below_lit (by kernel_rfl) (by kernel_rfl) ?_; (repeat (first | go_big_quiet_step (fail) | quiet_step (fail))); refine wpQuiet_nil ?_; intro w69 hb69; have hz69 := hb69.size; (try (simp at hz69)); obtain ⟨hcw69, hfw69⟩ := bcell hb69; (try (have hy69 : w.heap.size < w69.heap.size := by omega)); (try (have hyy69 : w.heap.size + 1 < w69.heap.size := by omega)))
                      have hb : Below wr.heap.size wr w69 := (by repeat (first | (with_reducible exact Below.refl _ _) | (with_reducible refine below_ov ?_ ?_) | (with_reducible refine Below.setCell ?_ ?_ _) | (with_reducible refine Below.alloc ?_ ?_ _) | (with_reducible refine Below.drew ?_) | (with_reducible refine below_drewN ?_ _) | (refine Below.trans ?_ (Below.mono ‹Below _ _ _› (by first | omega | (simp; done) | (simp; omega)))) | exact Below.refl _ _ | omega | (focus (simp; done)) | (focus (simp; omega))))
                      clear hb69 hcw69 hfw69
                      have HB_33 := hide (HB_L2.out.bel hb)
                      clear HB_L2
                      have FL_33 := hide (FL_L2.out.bel hb)
                      clear FL_L2
                      have a_33 := hide (a_L2.out.bel hb)
                      clear a_L2
                      have H1_33 := hide (H1_L2.out.bel hb)
                      clear H1_L2
                      have H2_33 := hide (H2_L2.out.bel hb)
                      clear H2_L2
                      have U2_33 := hide (U2_L2.out.bel hb)
                      clear U2_L2
                      have FV_33 := hide (FV_L2.out.bel hb)
                      clear FV_L2
                      have LI_33 := hide (LI_L2.out.bel hb)
                      clear LI_L2
                      have S2_33 := hide (S2_L2.out.bel hb)
                      clear S2_L2
                      have FX_33 := hide (FX_L2.out.bel hb)
                      clear FX_L2
                      have ST_33 := hide (ST_L2.out.bel hb)
                      clear ST_L2
                      have O2_33 := hide (O2_L2.out.bel hb)
                      clear O2_L2
                      have HL1_33 := hide (HL1_L2.out.bel hb)
                      clear HL1_L2
                      have x_33 := hide (x_L2.out.bel hb)
                      clear x_L2
                      have PS_33 := hide (PS_L2.out.bel hb)
                      clear PS_L2
                      have HL2_33 := hide (HL2.out.bel hb)
                      clear HL2
                      clear hb
                      clear hz69
                      go_wp2_with fail
                      go_roundg ((n4 * (F4 0).size) - k2)
                      case measure => omega
                      case rel => exact ⟨k2 + 1, by omega, by omega, by go_num, HL2_33⟩
                  · skip
                    have ek2 : k2 = n4 * (F4 0).size := by omega
                    clear hk2n hk2 hgn2
                    subst ek2
                    go_wp2_with fail
                    go_roundg (m5 - k1)
                    case measure => omega
                    case rel => exact ⟨k1 + 1, by omega, by omega, by go_num, HL1_L2⟩
              · skip
                have ek : m5 = k1 := by omega
                clear hk1n hk1 hgn1
                subst ek
                go_wp2_with fail
                go_meet
                case rel => exact ⟨HB_L1, FL_L1, a_L1, H1_L1, H2_L1, U2_L1, FV_L1, LI_L1, S2_L1, FX_L1, ST_L1, O2_L1⟩
        case rest => as_aux_lemma =>
          obtain ⟨HB_28, FL_28, a_28, H1_28, H2_28, U2_28, FV_28, LI_28, S2_28, FX_28, ST_28, O2_28⟩ := hcut
          go_wp2_with fail
          go_ret
          exact ⟨rfl, HB_28.out⟩

set_option maxRecDepth 100000 in
theorem FnSearches_lifted (os : Os) (started : os.Started) (H : Type) (enc : TypeId × Value → H) :
    ReturnsInHanded {} Tryd.checked os 8 .any (fun w args => (Rows.fnSearchesSpec.pre enc Tryd.prog Tryd.f8 Rows.fnSearchesRow.domain false w args ∧ laidMetH Tryd.prog Rows.fnSearchesRow.laid w) ∧ sizedMet enc Tryd.prog Tryd.f8 (OpenSpec.ofChange Rows.fnSearchesSpec) false w args) (Rows.fnSearchesSpec.post enc Tryd.prog Tryd.f8 false true false false) := by
  refine returnsInHanded_of_change_and (C := Tryd.checked) (X := fun w _ => laidMetH Tryd.prog Rows.fnSearchesRow.laid w) (fun _ _ _ hh h => h.of_heap hh) Tryd.own started (by kernel_rfl) Tryd.func8
    (ChangeSpec.witness_shaped (enc := enc) (C := Tryd.checked) (os := os) (X := fun w _ => laidMetH Tryd.prog Rows.fnSearchesRow.laid w) false (World.laidAll Tryd.prog os Rows.fnSearchesRow.laid) #[.slice none 0 0, .slice none 0 0] 8 (World.laidAll_os _ _ _)
      (World.shaped_of_ZipB (by kernel_rfl) (by kernel_rfl)) (by kernel_rfl) (by kernel_rfl) (by kernel_rfl)
      (by rw [MakeChecks.laidMetH_plain _ _ _ (by kernel_rfl)]; exact laidMet_laidAll _ (by kernel_rfl) (by kernel_rfl))) ?_
  intro W base args ds gs before hval0 hW _ hsz hL _
  have hval : ∀ (j : Nat) t v, Tryd.f8.params[j]? = some t → args[j]? = some v → Value.okWide Tryd.prog W .any base t v := hval0
  have hW' := hW
  obtain ⟨p, q, hA0, hV, rfl, hfz, hnd⟩ := hW
  have hA : DataW.TrodAll enc Tryd.prog W 0 (fun _ => true) true Tryd.f8.params.toList args.toList ds p := hA0
  rw [Tryd.params8] at hA hval
  obtain ⟨v0, vs0, d0, ds0, p0, q0, hargs, rfl, rfl, h0, r0⟩ := trodAll_cons hA
  obtain ⟨v1, vs1, d1, ds1, p1, q1, rfl, rfl, rfl, h1, r1⟩ := trodAll_cons r0
  obtain ⟨rfl, rfl, rfl⟩ := trodAll_nil r1
  obtain rfl : args = #[v0, v1] := by cases args; simp_all
  obtain ⟨rfl, rfl⟩ := trodVars_none hV
  have hend : ∀ W', Below W.heap.size W W' → Rows.fnSearchesSpec.post enc Tryd.prog Tryd.f8 false true false false W #[v0, v1] (.bool true) W' := fun W' hb =>
    law_post (T := 4) Tryd.laidOut rfl (by kernel_rfl) rfl Tryd.underlying4 hW' rfl hb
  clear hW' hA0 hval0
  obtain ⟨A, n, cap, rfl, hk0, hm0, hA0⟩ := openByte (hval 0 _ v0 rfl rfl) h0
  obtain ⟨B, mm, capB, rfl, hk1, hm1, hA1⟩ := openByte (hval 1 _ v1 rfl rfl) h1
  refine (FnSearches_walk A n cap B mm capB W hA0 hA1).mono fun e W' ⟨he, hb⟩ => ?_
  subst he
  exact ⟨_, rfl, hend W' hb⟩
/-- The statement. -/
theorem FnSearches_holds : Rows.FnSearchesSaid :=
  OpenClaim.holds_of_wide 8 Tryd.f8 rfl rfl rfl rfl rfl rfl rfl ⟨rfl, rfl, rfl, rfl, rfl⟩ rfl rfl rfl rfl rfl (by kernel_rfl) Tryd.func8 (show joinedFacts Tryd.prog 8 Tryd.f8 Rows.fnSearchesSpec Rows.fnSearchesRow = true from by unfold joinedFacts; rw [Tryd.heard, Tryd.enters, Tryd.lifts, Tryd.laidOut, Tryd.rowed, Tryd.made]; kernel_rfl)
    (of_decide_eq_true (by kernel_rfl)) (by unfold Func.isWrapper; first | (rw [if_pos (by decide +kernel)]; kernel_rfl) | (rw [if_neg (by decide +kernel)]; exact ⟨rfl, rfl⟩))
    (fun os started H enc _ => FnSearches_lifted os started H enc)
#print axioms FnSearches_holds
/-- The tied card. -/
theorem FnSearches_card : Rows.FnSearchesCardSaid :=
  Claim7.holds_tied_plain_at .later [] [.data, .pinned] true (true, "9bc3415960b78502ef8bbbaf3fc61dd07d7d66dca491c55dd25d91170ccba87f") false FnSearches_holds (fun _ h => by cases h) (by kernel_rfl) (fun _ h => by cases h) fnSearches_row_tie rfl ⟨rfl, rfl⟩ Tryd.mainIs0 rfl
    (fun f fn hf hfn => by
      obtain rfl : f = 8 := Option.some.inj ((show Tryd.prog.funcNamed "loop.example/g01020/laws.FnSearches" = some 8 by kernel_rfl).symm.trans hf) |>.symm
      obtain rfl : fn = Tryd.f8 := (Option.some.inj (Tryd.func8.symm.trans hfn)).symm
      exact ⟨Tryd.looks0, fun j t ht => by
        have hall : (Tryd.f8.params.toList.all fun u => !Tryd.prog.wantsStandIn u) = true := by kernel_rfl
        have hm : t ∈ Tryd.f8.params.toList := by simpa using Array.mem_of_getElem? ht
        exact (show Tryd.prog.wantsStandIn t = false by simpa using List.all_eq_true.1 hall t hm)⟩)
    (by kernel_rfl)
#print axioms FnSearches_card
end Go.Proofs.YtpckhpkbdanjoaaDoor
