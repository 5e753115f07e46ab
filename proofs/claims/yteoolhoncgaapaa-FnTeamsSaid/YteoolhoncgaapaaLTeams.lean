/-
  FnTeams: the law returns true at every input. No condition.
-/
import Derived.Test.YteoolhoncgaapaaOByte
import Derived.Test.YteoolhoncgaapaaWDrwS3
import Derived.Test.YteoolhoncgaapaaWRefill2
import Derived.Test.YteoolhoncgaapaaPDrwT
import Derived.Test.YteoolhoncgaapaaFrame
import Derived.Deep.Cut
import Derived.Deep.CutRange
namespace Go.Proofs.Yteoolhoncgaapaa
set_option linter.unusedVariables false
set_option linter.unusedSimpArgs false
open Go.ChangeShapes Go.WideShapes Go.ChangeAt Go.RowKit Go.Joins Go.Deep

/-- A slice that is read, wherever it lies. -/
def SlH (w : World) (sz : Nat) (v : Value) (n : Nat) (c : Nat → Nat → Value) : Prop := ∃ hi, hi ≤ w.heap.size ∧ Sl w 0 hi sz v n c
section
variable {w w' : World} {sz n : Nat} {v : Value} {c : Nat → Nat → Value}
theorem SlH.below (h : SlH w sz v n c) (hb : Below w.heap.size w w') : SlH w' sz v n c := by
  obtain ⟨hi, h1, h2⟩ := h
  exact ⟨hi, Nat.le_trans h1 hb.size, h2.below hb h1⟩
theorem SlH.alloc (h : SlH w sz v n c) (o : Obj) : SlH (w.alloc o) sz v n c := h.below ((Below.refl _ _).alloc (Nat.le_refl _) o)
theorem SlH.form (h : SlH w sz v n c) : ∃ A cap, v = .slice A n cap ∧ n ≤ cap := by
  obtain ⟨hi, _, h2⟩ := h
  obtain ⟨A, cap, e, hcap, _⟩ := h2.open_
  exact ⟨A, cap, e, hcap⟩
end

set_option maxRecDepth 100000 in
set_option maxHeartbeats 12800000 in
theorem FnTeams_walk (A : Option Addr) (n cap : Nat) (B : Option Addr) (mm capB : Nat) (w : World) (hc : Code w (.slice A n cap)) (hm : Code w (.slice B mm capB)) :
    Calls Try.prog 5 #[.slice A n cap, .slice B mm capB] w fun e w' => e = .returned (.bool true) ∧ Below w.heap.size w w' := by
  go_enter Try.func5, Try.ntmps5
  go_wp2_with fail
  · go_ret
    exact ⟨rfl, Below.refl _ _⟩
  have hbase : Below w.heap.size w w := Below.refl _ _
  refine (DrawTeamTurn_any _ _ hc).mono ?_
  rintro e w1 ⟨u, ur, way, res, rfl, n1, n2, hi1, hi2, f, fk, fx, hs1, hs2, hn1, hn2, hh1, hh2, hb1⟩
  have hz1 := hb1.size
  have SL1 : Hid (SlH w1 2 u n1 (iiC f fk)) := ⟨hi1, hh1, hs1.lower (Nat.zero_le _)⟩
  have SR1 : Hid (SlH w1 1 ur n2 (iC fx)) := ⟨hi2, hh2, hs2.lower (Nat.zero_le _)⟩
  clear hs1 hs2 hh1 hh2
  obtain ⟨UA, uc, rfl, huc⟩ := SL1.out.form
  obtain ⟨RA, rc, rfl, hrc⟩ := SR1.out.form
  have hB1 : Below w.heap.size w w1 := hb1
  go_wp2_with fail
  obtain ⟨ha, hle, hsl⟩ := SL1.out
  obtain ⟨ha', hle', hsl'⟩ := SR1.out
  refine (TeamTurn_impl f fk fx way res n1 n2 0 ha 0 ha' _ _ _ hsl hsl' hle hle').mono ?_
  rintro e w2 ⟨rfl, hb2⟩
  have hz2 := hb2.size
  have SL2 : Hid (SlH w2 _ _ _ _) := SL1.out.below hb2
  clear SL1
  have SR2 : Hid (SlH w2 _ _ _ _) := SR1.out.below hb2
  clear SR1
  have hB2 : Below w.heap.size w w2 := hB1.trans (hb2.mono hB1.size)
  clear hsl hsl'
  go_wp2_with fail
  obtain ⟨ha, hle, hsl⟩ := SL2.out
  obtain ⟨ha', hle', hsl'⟩ := SR2.out
  refine (TeamTurn_spec f fk fx way res n1 n2 0 ha 0 ha' _ _ _ hsl hsl' hle hle').mono ?_
  rintro e w3 ⟨rfl, hb3⟩
  have hz3 := hb3.size
  have SL3 : Hid (SlH w3 _ _ _ _) := SL2.out.below hb3
  clear SL2
  have SR3 : Hid (SlH w3 _ _ _ _) := SR2.out.below hb3
  clear SR2
  have hB3 : Below w.heap.size w w3 := hB2.trans (hb3.mono hB2.size)
  clear hsl hsl'
  go_wp2_with fail
  refine (DrawWorstRate_any _ _ (hm.below hB3 (Nat.le_refl _))).mono ?_
  rintro e w4 ⟨x, uv, rfl, n3, hRc, hn3, hb4⟩
  have hz4 := hb4.size
  have SL4 : Hid (SlH w4 _ _ _ _) := SL3.out.below hb4
  clear SL3
  have SR4 : Hid (SlH w4 _ _ _ _) := SR3.out.below hb4
  clear SR3
  have hB4 : Below w.heap.size w w4 := hB3.trans (hb4.mono hB3.size)
  obtain ⟨m, b, hsc⟩ := hRc.sl2
  have SC4 : Hid (SlH w4 2 uv n3 (iiC m b)) := ⟨_, Nat.le_refl _, hsc.lower (Nat.zero_le _)⟩
  clear hsc hRc
  obtain ⟨CA, cc, rfl, hcc⟩ := SC4.out.form
  go_wp2_with fail
  obtain ⟨ha, hle, hsl⟩ := SC4.out
  refine (WorstRate_impl x m b n3 0 ha _ _ hsl hle (by omega)).mono ?_
  rintro e w5 ⟨rfl, hb5⟩
  have hz5 := hb5.size
  have SL5 : Hid (SlH w5 _ _ _ _) := SL4.out.below hb5
  clear SL4
  have SR5 : Hid (SlH w5 _ _ _ _) := SR4.out.below hb5
  clear SR4
  have SC5 : Hid (SlH w5 _ _ _ _) := SC4.out.below hb5
  clear SC4
  have hB5 : Below w.heap.size w w5 := hB4.trans (hb5.mono hB4.size)
  clear hsl
  go_wp2_with fail
  obtain ⟨ha, hle, hsl⟩ := SC5.out
  refine (WorstRate_spec x m b n3 0 ha _ _ hsl hle (by omega)).mono ?_
  rintro e w6 ⟨rfl, hb6⟩
  have hz6 := hb6.size
  have SL6 : Hid (SlH w6 _ _ _ _) := SL5.out.below hb6
  clear SL5
  have SR6 : Hid (SlH w6 _ _ _ _) := SR5.out.below hb6
  clear SR5
  have SC6 : Hid (SlH w6 _ _ _ _) := SC5.out.below hb6
  clear SC5
  have hB6 : Below w.heap.size w w6 := hB5.trans (hb6.mono hB5.size)
  clear hsl
  go_wp2_with fail
  refine (DrawTurnBar_any _ _ (hm.below hB6 (Nat.le_refl _))).mono ?_
  rintro e w7 ⟨ts, tt, tr, rfl, hb7⟩
  have hz7 := hb7.size
  have SL7 : Hid (SlH w7 _ _ _ _) := SL6.out.below hb7
  clear SL6
  have SR7 : Hid (SlH w7 _ _ _ _) := SR6.out.below hb7
  clear SR6
  have SC7 : Hid (SlH w7 _ _ _ _) := SC6.out.below hb7
  clear SC6
  have hB7 : Below w.heap.size w w7 := hB6.trans (hb7.mono hB6.size)
  go_wp2_with fail
  refine (TurnBar_impl ts tt tr _).mono ?_
  rintro e w0 ⟨rfl, rfl⟩
  go_wp2_with fail
  refine (TurnBar_spec ts tt tr _).mono ?_
  rintro e w0 ⟨rfl, rfl⟩
  go_wp2_with fail
  refine (DrawRefillsFrom_any _ _ (hm.below hB7 (Nat.le_refl _))).mono ?_
  rintro e w8 ⟨V, BB, ub, bar, rfl, n4, hRc, hn4, hb8⟩
  have hz8 := hb8.size
  have SL8 : Hid (SlH w8 _ _ _ _) := SL7.out.below hb8
  clear SL7
  have SR8 : Hid (SlH w8 _ _ _ _) := SR7.out.below hb8
  clear SR7
  have SC8 : Hid (SlH w8 _ _ _ _) := SC7.out.below hb8
  clear SC7
  have hB8 : Below w.heap.size w w8 := hB7.trans (hb8.mono hB7.size)
  obtain ⟨bv, bb, hsc⟩ := hRc.sl2
  have SB8 : Hid (SlH w8 2 ub n4 (iiC bv bb)) := ⟨_, Nat.le_refl _, hsc.lower (Nat.zero_le _)⟩
  clear hsc hRc
  obtain ⟨BA, bc, rfl, hbc⟩ := SB8.out.form
  go_wp2_with fail
  obtain ⟨W9, hW9⟩ : ∃ W, W = w8.alloc (.cells #[.int .i64 (V), .int .i64 (BB)] 26) := ⟨_, rfl⟩
  rw [← hW9]
  have SL9 : Hid (SlH W9 2 (.slice UA n1 uc) n1 (iiC f fk)) := by show SlH _ _ _ _ _; rw [hW9]; exact SL8.out.alloc _
  clear SL8
  have SR9 : Hid (SlH W9 1 (.slice RA n2 rc) n2 (iC fx)) := by show SlH _ _ _ _ _; rw [hW9]; exact SR8.out.alloc _
  clear SR8
  have SC9 : Hid (SlH W9 2 (.slice CA n3 cc) n3 (iiC m b)) := by show SlH _ _ _ _ _; rw [hW9]; exact SC8.out.alloc _
  clear SC8
  have SB9 : Hid (SlH W9 2 (.slice BA n4 bc) n4 (iiC bv bb)) := by show SlH _ _ _ _ _; rw [hW9]; exact SB8.out.alloc _
  clear SB8
  have HK9 : Hid (BxI W9 w8.heap.size (V) (BB)) := by show BxI _ _ _ _; rw [hW9]; exact BxI.new _ _ _ _
  have hB9 : Below w.heap.size w W9 := by rw [hW9]; exact hB8.alloc hB8.size _
  clear hW9
  obtain ⟨ha, hle, hsl⟩ := SB9.out
  refine (RefillsFrom_impl V BB bv bb n4 bar 0 ha _ _ hsl hle (by omega)).mono ?_
  rintro e w10 ⟨rfl, hb10⟩
  have hz10 := hb10.size
  have HK10 : Hid (BxI w10 w8.heap.size (V) (BB)) := HK9.out.keep (hb10.block _ HK9.out.lt) hb10.size
  clear HK9
  have SL10 : Hid (SlH w10 _ _ _ _) := SL9.out.below hb10
  clear SL9
  have SR10 : Hid (SlH w10 _ _ _ _) := SR9.out.below hb10
  clear SR9
  have SC10 : Hid (SlH w10 _ _ _ _) := SC9.out.below hb10
  clear SC9
  have SB10 : Hid (SlH w10 _ _ _ _) := SB9.out.below hb10
  clear SB9
  have hB10 : Below w.heap.size w w10 := hB9.trans (hb10.mono hB9.size)
  clear hsl
  obtain ⟨K0, K1, Kf, Kl⟩ := HK10.out
  go_wp2_with fail
  clear K0 K1 Kf Kl
  obtain ⟨W11, hW11⟩ : ∃ W, W = w10.alloc (.cells #[.int .i64 (refV V BB bv bb n4 bar), .int .i64 (refP V BB bv bb n4 bar)] 26) := ⟨_, rfl⟩
  rw [← hW11]
  have HK11 : Hid (BxI W11 w8.heap.size (V) (BB)) := by show BxI _ _ _ _; rw [hW11]; exact HK10.out.alloc _
  clear HK10
  have SL11 : Hid (SlH W11 2 (.slice UA n1 uc) n1 (iiC f fk)) := by show SlH _ _ _ _ _; rw [hW11]; exact SL10.out.alloc _
  clear SL10
  have SR11 : Hid (SlH W11 1 (.slice RA n2 rc) n2 (iC fx)) := by show SlH _ _ _ _ _; rw [hW11]; exact SR10.out.alloc _
  clear SR10
  have SC11 : Hid (SlH W11 2 (.slice CA n3 cc) n3 (iiC m b)) := by show SlH _ _ _ _ _; rw [hW11]; exact SC10.out.alloc _
  clear SC10
  have SB11 : Hid (SlH W11 2 (.slice BA n4 bc) n4 (iiC bv bb)) := by show SlH _ _ _ _ _; rw [hW11]; exact SB10.out.alloc _
  clear SB10
  have HP11 : Hid (BxI W11 w10.heap.size (refV V BB bv bb n4 bar) (refP V BB bv bb n4 bar)) := by show BxI _ _ _ _; rw [hW11]; exact BxI.new _ _ _ _
  have hB11 : Below w.heap.size w W11 := by rw [hW11]; exact hB10.alloc hB10.size _
  clear hW11
  obtain ⟨ha, hle, hsl⟩ := SB11.out
  refine (RefillsFrom_spec V BB bv bb n4 bar 0 ha _ _ hsl hle (by omega)).mono ?_
  rintro e w12 ⟨rfl, hb12⟩
  have hz12 := hb12.size
  have HK12 : Hid (BxI w12 w8.heap.size (V) (BB)) := HK11.out.keep (hb12.block _ HK11.out.lt) hb12.size
  clear HK11
  have HP12 : Hid (BxI w12 w10.heap.size (refV V BB bv bb n4 bar) (refP V BB bv bb n4 bar)) := HP11.out.keep (hb12.block _ HP11.out.lt) hb12.size
  clear HP11
  have SL12 : Hid (SlH w12 _ _ _ _) := SL11.out.below hb12
  clear SL11
  have SR12 : Hid (SlH w12 _ _ _ _) := SR11.out.below hb12
  clear SR11
  have SC12 : Hid (SlH w12 _ _ _ _) := SC11.out.below hb12
  clear SC11
  have SB12 : Hid (SlH w12 _ _ _ _) := SB11.out.below hb12
  clear SB11
  have hB12 : Below w.heap.size w w12 := hB11.trans (hb12.mono hB11.size)
  clear hsl
  obtain ⟨K0, K1, Kf, Kl⟩ := HK12.out
  obtain ⟨P0, P1, Pf, Pl⟩ := HP12.out
  go_upto_region 15 with fail
  clear K0 K1 Kf Kl P0 P1 Pf Pl
  obtain ⟨W13, hW13⟩ : ∃ W, W = w12.alloc (.cells #[.int .i64 (refV V BB bv bb n4 bar), .int .i64 (refP V BB bv bb n4 bar)] 26) := ⟨_, rfl⟩
  rw [← hW13]
  have HK13 : Hid (BxI W13 w8.heap.size (V) (BB)) := by show BxI _ _ _ _; rw [hW13]; exact HK12.out.alloc _
  clear HK12
  have HP13 : Hid (BxI W13 w10.heap.size (refV V BB bv bb n4 bar) (refP V BB bv bb n4 bar)) := by show BxI _ _ _ _; rw [hW13]; exact HP12.out.alloc _
  clear HP12
  have SL13 : Hid (SlH W13 2 (.slice UA n1 uc) n1 (iiC f fk)) := by show SlH _ _ _ _ _; rw [hW13]; exact SL12.out.alloc _
  clear SL12
  have SR13 : Hid (SlH W13 1 (.slice RA n2 rc) n2 (iC fx)) := by show SlH _ _ _ _ _; rw [hW13]; exact SR12.out.alloc _
  clear SR12
  have SC13 : Hid (SlH W13 2 (.slice CA n3 cc) n3 (iiC m b)) := by show SlH _ _ _ _ _; rw [hW13]; exact SC12.out.alloc _
  clear SC12
  have SB13 : Hid (SlH W13 2 (.slice BA n4 bc) n4 (iiC bv bb)) := by show SlH _ _ _ _ _; rw [hW13]; exact SB12.out.alloc _
  clear SB12
  have HQ13 : Hid (BxI W13 w12.heap.size (refV V BB bv bb n4 bar) (refP V BB bv bb n4 bar)) := by show BxI _ _ _ _; rw [hW13]; exact BxI.new _ _ _ _
  have hB13 : Below w.heap.size w W13 := by rw [hW13]; exact hB12.alloc hB12.size _
  clear hW13
  have TF := team_facts (v := f) (b := fk) (r := fx) (way := way) (res := res) (n := n1) (n' := n2)
  have WF := worst_facts (x := x) (m := m) (b := b) (n := n3)
  have UF := turn_facts (s := ts) (t := tt) (r := tr)
  have RF := ref_facts (V := V) (B := BB) (v := bv) (b := bb) (n := n4) (bar := bar)
  obtain ⟨ok, hok⟩ : ∃ z, teamB f fk fx way res n1 n2 = z := ⟨_, rfl⟩
  rw [hok] at TF ⊢
  clear hok
  obtain ⟨I, hI⟩ : ∃ z, teamI f fk fx way res n1 n2 = z := ⟨_, rfl⟩
  rw [hI] at TF ⊢
  clear hI
  obtain ⟨L, hL⟩ : ∃ z, teamL f fk fx way res n1 n2 = z := ⟨_, rfl⟩
  rw [hL] at TF ⊢
  clear hL
  obtain ⟨one, hone⟩ : ∃ z, worstOk x m b n3 = z := ⟨_, rfl⟩
  rw [hone] at WF ⊢
  clear hone
  obtain ⟨wst, hwst⟩ : ∃ z, worstN x m b n3 = z := ⟨_, rfl⟩
  rw [hwst] at WF ⊢
  clear hwst
  obtain ⟨three, hthree⟩ : ∃ z, turnB ts tt tr = z := ⟨_, rfl⟩
  rw [hthree] at UF ⊢
  clear hthree
  obtain ⟨T, hT⟩ : ∃ z, turnN ts tt tr = z := ⟨_, rfl⟩
  rw [hT] at UF ⊢
  clear hT
  obtain ⟨five, hfive⟩ : ∃ z, refOk V BB bv bb n4 bar = z := ⟨_, rfl⟩
  rw [hfive] at RF ⊢
  clear hfive
  obtain ⟨cnt, hcnt⟩ : ∃ z, refC V BB bv bb n4 bar = z := ⟨_, rfl⟩
  rw [hcnt] at RF ⊢
  clear hcnt
  obtain ⟨PV, hPV⟩ : ∃ z, refV V BB bv bb n4 bar = z := ⟨_, rfl⟩
  rw [hPV] at RF HP13 HQ13 ⊢
  clear hPV
  obtain ⟨PP, hPP⟩ : ∃ z, refP V BB bv bb n4 bar = z := ⟨_, rfl⟩
  rw [hPP] at RF HP13 HQ13 ⊢
  clear hPP
  have HTF := hide TF
  clear TF
  have HWF := hide WF
  clear WF
  have HUF := hide UF
  clear UF
  have HRF := hide RF
  clear RF
  go_cut [195] from 140 to 194 (fun s195 wx => s195 = .bool false ∧ Below w.heap.size w wx ∧ Hid (BxI wx w8.heap.size (V) (BB)) ∧ Hid (BxI wx w10.heap.size (PV) (PP)) ∧ Hid (BxI wx w12.heap.size (PV) (PP)) ∧ Hid (SlH wx 2 (.slice UA n1 uc) n1 (iiC f fk)) ∧ Hid (SlH wx 1 (.slice RA n2 rc) n2 (iC fx)) ∧ Hid (SlH wx 2 (.slice CA n3 cc) n3 (iiC m b)) ∧ Hid (SlH wx 2 (.slice BA n4 bc) n4 (iiC bv bb)))
  case first => as_aux_lemma =>
    have WF := HWF.out
    cases one with
    | false =>
      clear WF
      obtain ⟨K0, K1, Kf, Kl⟩ := HK13.out
      obtain ⟨P0, P1, Pf, Pl⟩ := HP13.out
      obtain ⟨Q0, Q1, Qf, Ql⟩ := HQ13.out
      go_wp2_with fail
      clear K0 K1 Kf Kl P0 P1 Pf Pl Q0 Q1 Qf Ql
      go_meet
      case rel => exact ⟨rfl, hB13, HK13, HP13, HQ13, SL13, SR13, SC13, SB13⟩
    | true =>
      have HCK := hide (WF rfl).1
      clear WF
      obtain ⟨K0, K1, Kf, Kl⟩ := HK13.out
      obtain ⟨P0, P1, Pf, Pl⟩ := HP13.out
      obtain ⟨Q0, Q1, Qf, Ql⟩ := HQ13.out
      go_wp2_with fail
      clear K0 K1 Kf Kl P0 P1 Pf Pl Q0 Q1 Qf Ql
      obtain ⟨ha, hle, hsl⟩ := SC13.out
      refine (AreChecks_impl m b n3 0 ha _ _ hsl hle (by omega)).mono ?_
      rintro e w14 ⟨rfl, hb14⟩
      have hz14 := hb14.size
      have HK14 : Hid (BxI w14 w8.heap.size (V) (BB)) := HK13.out.keep (hb14.block _ HK13.out.lt) hb14.size
      clear HK13
      have HP14 : Hid (BxI w14 w10.heap.size (PV) (PP)) := HP13.out.keep (hb14.block _ HP13.out.lt) hb14.size
      clear HP13
      have HQ14 : Hid (BxI w14 w12.heap.size (PV) (PP)) := HQ13.out.keep (hb14.block _ HQ13.out.lt) hb14.size
      clear HQ13
      have SL14 : Hid (SlH w14 _ _ _ _) := SL13.out.below hb14
      clear SL13
      have SR14 : Hid (SlH w14 _ _ _ _) := SR13.out.below hb14
      clear SR13
      have SC14 : Hid (SlH w14 _ _ _ _) := SC13.out.below hb14
      clear SC13
      have SB14 : Hid (SlH w14 _ _ _ _) := SB13.out.below hb14
      clear SB13
      have hB14 : Below w.heap.size w w14 := hB13.trans (hb14.mono hB13.size)
      rw [HCK.out]
      clear hsl
      obtain ⟨K0, K1, Kf, Kl⟩ := HK14.out
      obtain ⟨P0, P1, Pf, Pl⟩ := HP14.out
      obtain ⟨Q0, Q1, Qf, Ql⟩ := HQ14.out
      go_wp2_with fail
      clear K0 K1 Kf Kl P0 P1 Pf Pl Q0 Q1 Qf Ql
      go_meet
      case rel => exact ⟨rfl, hB14, HK14, HP14, HQ14, SL14, SR14, SC14, SB14⟩
  case rest => as_aux_lemma =>
    obtain ⟨rfl, hB100, HK100, HP100, HQ100, SL100, SR100, SC100, SB100⟩ := hcut
    obtain ⟨K0, K1, Kf, Kl⟩ := HK100.out
    obtain ⟨P0, P1, Pf, Pl⟩ := HP100.out
    obtain ⟨Q0, Q1, Qf, Ql⟩ := HQ100.out
    go_upto_if 196 with fail
    clear K0 K1 Kf Kl P0 P1 Pf Pl Q0 Q1 Qf Ql
    go_cut [] from 197 to 262 (fun wx => Below w.heap.size w wx ∧ Hid (BxI wx w8.heap.size (V) (BB)) ∧ Hid (BxI wx w10.heap.size (PV) (PP)) ∧ Hid (BxI wx w12.heap.size (PV) (PP)) ∧ Hid (SlH wx 2 (.slice UA n1 uc) n1 (iiC f fk)) ∧ Hid (SlH wx 1 (.slice RA n2 rc) n2 (iC fx)) ∧ Hid (SlH wx 2 (.slice CA n3 cc) n3 (iiC m b)) ∧ Hid (SlH wx 2 (.slice BA n4 bc) n4 (iiC bv bb)))
    case first => as_aux_lemma =>
      cases ok with
      | false =>
        obtain ⟨K0, K1, Kf, Kl⟩ := HK100.out
        obtain ⟨P0, P1, Pf, Pl⟩ := HP100.out
        obtain ⟨Q0, Q1, Qf, Ql⟩ := HQ100.out
        go_wp2_with fail
        clear K0 K1 Kf Kl P0 P1 Pf Pl Q0 Q1 Qf Ql
        go_meet
        case rel => exact ⟨hB100, HK100, HP100, HQ100, SL100, SR100, SC100, SB100⟩
      | true =>
        obtain ⟨e12, hn14, J, hJ, hJ', hF⟩ := HTF.out rfl
        subst hJ
        have E12 := hide e12
        clear e12
        obtain ⟨K0, K1, Kf, Kl⟩ := HK100.out
        obtain ⟨P0, P1, Pf, Pl⟩ := HP100.out
        obtain ⟨Q0, Q1, Qf, Ql⟩ := HQ100.out
        go_wp2_with fail
        clear K0 K1 Kf Kl P0 P1 Pf Pl Q0 Q1 Qf Ql
        go_loopg [199] 6 (fun gn iv wr => ∃ i : Nat, i ≤ n1 ∧ n1 - i < gn ∧ iv = .int .i64 i ∧ Below w.heap.size w wr ∧ Hid (BxI wr w8.heap.size (V) (BB)) ∧ Hid (BxI wr w10.heap.size (PV) (PP)) ∧ Hid (BxI wr w12.heap.size (PV) (PP)) ∧ Hid (SlH wr 2 (.slice UA n1 uc) n1 (iiC f fk)) ∧ Hid (SlH wr 1 (.slice RA n2 rc) n2 (iC fx)) ∧ Hid (SlH wr 2 (.slice CA n3 cc) n3 (iiC m b)) ∧ Hid (SlH wr 2 (.slice BA n4 bc) n4 (iiC bv bb)))
        case atStart => exact ⟨0, by omega, by omega, rfl, hB100, HK100, HP100, HQ100, SL100, SR100, SC100, SB100⟩
        case round =>
          obtain ⟨i, hi, hgi, rfl, hB300, HK300, HP300, HQ300, SL300, SR300, SC300, SB300⟩ := hrel
          have hzr := hB300.size
          by_cases hin : i < n1
          · obtain ⟨g1, g2, g3, g4⟩ := hF i hin
            have HG2 := hide g2
            have HG3 := hide g3
            have HG4 := hide g4
            have hi2 : i < n2 := by have := E12.out; omega
            obtain ⟨ha, hle, hsl⟩ := SL300.out
            obtain ⟨A1, c1, e1, _, hA1⟩ := hsl.open_
            cases e1
            obtain ⟨b1, o1, rfl, _, p2, p3⟩ := hA1 (by omega)
            obtain ⟨ha', hle', hsl'⟩ := SR300.out
            obtain ⟨A2, c2, e2, _, hA2⟩ := hsl'.open_
            cases e2
            obtain ⟨b2, o2, rfl, _, q2, q3⟩ := hA2 (by omega)
            have c0 : wr.cell? ⟨b1, o1 + i * 2, none⟩ = some (.int .i64 (f i)) := p3 i 0 hin (by omega)
            have c1 : wr.cell? ⟨b1, o1 + i * 2 + 1, none⟩ = some (.int .i64 (fk i)) := p3 i 1 hin (by omega)
            have r0 : wr.cell? ⟨b2, o2 + i, none⟩ = some (.int .i64 (fx i)) := by simpa [iC] using q3 i 0 hi2 (by omega)
            have l1 : b1 < wr.heap.size := by omega
            have l2 : b2 < wr.heap.size := by omega
            clear hA1 hA2 p3 q3 hsl hsl' g2 g3 g4 hF
            go_wp2_with fail
            have HR0 := hide r0
            (refine wp_region_below_lit (by kernel_rfl) (by kernel_rfl) ?_; (repeat (first | go_big_quiet_step ((go_at_call 14; exact quiet_ov (LatestTurn_impl _ _ _ _ _ _))) | quiet_step ((go_at_call 14; exact quiet_ov (LatestTurn_impl _ _ _ _ _ _))))); refine wpQuiet_nil ?_; intro w31 hb31; have hz31 := hb31.size; (try (simp at hz31)); obtain ⟨hcw31, hfw31⟩ := bcell hb31; (try (have hy31 : w.heap.size < w31.heap.size := by omega)); (try (have hyy31 : w.heap.size + 1 < w31.heap.size := by omega)))
            clear c0 c1 r0 hcw31 hfw31
            have hb31' : Below wr.heap.size wr w31 := ((Below.refl _ _).alloc (Nat.le_refl _) _).trans (hb31.mono (by simp))
            have x0 : w31.cell? ⟨wr.heap.size, 0, none⟩ = some (.int .i64 (f i)) := (hb31.cell (p := ⟨wr.heap.size, 0, none⟩) (by simp)).trans (World.cell?_alloc_new _ _ _ _)
            have x1 : w31.cell? ⟨wr.heap.size, 1, none⟩ = some (.int .i64 (fk i)) := (hb31.cell (p := ⟨wr.heap.size, 1, none⟩) (by simp)).trans (World.cell?_alloc_new _ _ _ _)
            have r1 : w31.cell? ⟨b2, o2 + i, none⟩ = some (.int .i64 (fx i)) := (hb31'.cell (p := ⟨b2, o2 + i, none⟩) l2).trans HR0.out
            have lx : wr.heap.size < w31.heap.size := by omega
            have l2b : b2 < w31.heap.size := by omega
            go_wp2_with fail
            (refine wp_region_below_lit (by kernel_rfl) (by kernel_rfl) ?_; (repeat (first | go_big_quiet_step ((go_at_call 15; exact quiet_ov (LatestTurn_spec _ _ _ _ _ _))) | quiet_step ((go_at_call 15; exact quiet_ov (LatestTurn_spec _ _ _ _ _ _))))); refine wpQuiet_nil ?_; intro w32 hb32; have hz32 := hb32.size; (try (simp at hz32)); obtain ⟨hcw32, hfw32⟩ := bcell hb32; (try (have hy32 : w.heap.size < w32.heap.size := by omega)); (try (have hyy32 : w.heap.size + 1 < w32.heap.size := by omega)))
            clear x0 x1 r1 hcw32 hfw32
            have hb32' : Below wr.heap.size wr w32 := hb31'.trans (hb32.mono hb31'.size)
            have d1 : decide (lateN (f i) (fk i) (fx i) way res < L) = false := decide_eq_false (by have := HG2.out; omega)
            have HK301 : Hid (BxI w32 w8.heap.size (V) (BB)) := HK300.out.keep (hb32'.block _ HK300.out.lt) hb32'.size
            clear HK300
            have HP301 : Hid (BxI w32 w10.heap.size (PV) (PP)) := HP300.out.keep (hb32'.block _ HP300.out.lt) hb32'.size
            clear HP300
            have HQ301 : Hid (BxI w32 w12.heap.size (PV) (PP)) := HQ300.out.keep (hb32'.block _ HQ300.out.lt) hb32'.size
            clear HQ300
            have SL301 : Hid (SlH w32 _ _ _ _) := SL300.out.below hb32'
            clear SL300
            have SR301 : Hid (SlH w32 _ _ _ _) := SR300.out.below hb32'
            clear SR300
            have SC301 : Hid (SlH w32 _ _ _ _) := SC300.out.below hb32'
            clear SC300
            have SB301 : Hid (SlH w32 _ _ _ _) := SB300.out.below hb32'
            clear SB300
            have hB301 : Below w.heap.size w w32 := hB300.trans (hb32'.mono hB300.size)
            rcases Nat.lt_trichotomy i J with hc1 | hc1 | hc1
            · have d2 : decide (i < J) = true := decide_eq_true hc1
              have d2' : decide ((i : Int) < (J : Int)) = true := decide_eq_true (by omega)
              have d3 : (lateN (f i) (fk i) (fx i) way res == L) = false := by have := HG3.out hc1; simp; omega
              have d4 : ((i : Int) == (J : Int)) = false := by simp; omega
              have d4' : (i == J) = false := by simp; omega
              go_wp2_with fail
              go_roundg (n1 - i)
              case measure => omega
              case rel => exact ⟨i + 1, by omega, by omega, by go_num, hB301, HK301, HP301, HQ301, SL301, SR301, SC301, SB301⟩
            · have d2 : decide (i < J) = false := decide_eq_false (by omega)
              have d2' : decide ((i : Int) < (J : Int)) = false := decide_eq_false (by omega)
              have d4 : ((i : Int) == (J : Int)) = true := by simp; omega
              have d4' : (i == J) = true := by simp; omega
              have d5 : (lateN (f i) (fk i) (fx i) way res != L) = false := by have := HG4.out hc1; simp; omega
              have hc2 : i ≤ J := by omega
              have hc3 : J ≤ i := by omega
              clear hc1
              go_wp2_with fail
              go_roundg (n1 - i)
              case measure => omega
              case rel => exact ⟨i + 1, by omega, by omega, by go_num, hB301, HK301, HP301, HQ301, SL301, SR301, SC301, SB301⟩
            · have d2 : decide (i < J) = false := decide_eq_false (by omega)
              have d2' : decide ((i : Int) < (J : Int)) = false := decide_eq_false (by omega)
              have d4 : ((i : Int) == (J : Int)) = false := by simp; omega
              have d4' : (i == J) = false := by simp; omega
              go_wp2_with fail
              go_roundg (n1 - i)
              case measure => omega
              case rel => exact ⟨i + 1, by omega, by omega, by go_num, hB301, HK301, HP301, HQ301, SL301, SR301, SC301, SB301⟩
          · obtain rfl : i = n1 := by omega
            obtain ⟨K0, K1, Kf, Kl⟩ := HK300.out
            obtain ⟨P0, P1, Pf, Pl⟩ := HP300.out
            obtain ⟨Q0, Q1, Qf, Ql⟩ := HQ300.out
            go_wp2_with fail
            clear K0 K1 Kf Kl P0 P1 Pf Pl Q0 Q1 Qf Ql
            go_meet
            case rel => exact ⟨hB300, HK300, HP300, HQ300, SL300, SR300, SC300, SB300⟩
    case rest => as_aux_lemma =>
      obtain ⟨hB400, HK400, HP400, HQ400, SL400, SR400, SC400, SB400⟩ := hcut
      obtain ⟨K0, K1, Kf, Kl⟩ := HK400.out
      obtain ⟨P0, P1, Pf, Pl⟩ := HP400.out
      obtain ⟨Q0, Q1, Qf, Ql⟩ := HQ400.out
      go_upto_if 263 with fail
      clear K0 K1 Kf Kl P0 P1 Pf Pl Q0 Q1 Qf Ql
      go_cut [] from 264 to 318 (fun wx => Below w.heap.size w wx ∧ Hid (BxI wx w8.heap.size (V) (BB)) ∧ Hid (BxI wx w10.heap.size (PV) (PP)) ∧ Hid (BxI wx w12.heap.size (PV) (PP)) ∧ Hid (SlH wx 2 (.slice UA n1 uc) n1 (iiC f fk)) ∧ Hid (SlH wx 1 (.slice RA n2 rc) n2 (iC fx)) ∧ Hid (SlH wx 2 (.slice CA n3 cc) n3 (iiC m b)) ∧ Hid (SlH wx 2 (.slice BA n4 bc) n4 (iiC bv bb)))
      case first => as_aux_lemma =>
        cases one with
        | false =>
          obtain ⟨K0, K1, Kf, Kl⟩ := HK400.out
          obtain ⟨P0, P1, Pf, Pl⟩ := HP400.out
          obtain ⟨Q0, Q1, Qf, Ql⟩ := HQ400.out
          go_wp2_with fail
          clear K0 K1 Kf Kl P0 P1 Pf Pl Q0 Q1 Qf Ql
          go_meet
          case rel => exact ⟨hB400, HK400, HP400, HQ400, SL400, SR400, SC400, SB400⟩
        | true =>
          obtain ⟨_, hn320, hws, hF⟩ := HWF.out rfl
          have HFF := hide hF
          clear hF
          obtain ⟨K0, K1, Kf, Kl⟩ := HK400.out
          obtain ⟨P0, P1, Pf, Pl⟩ := HP400.out
          obtain ⟨Q0, Q1, Qf, Ql⟩ := HQ400.out
          go_wp2_with fail
          clear K0 K1 Kf Kl P0 P1 Pf Pl Q0 Q1 Qf Ql
          go_loopg [43] 25 (fun gn iv wr => ∃ j : Nat, j + 1 ≤ n3 ∧ n3 - j < gn ∧ iv = .int .i64 ((j : Int) + 1) ∧ Below w.heap.size w wr ∧ Hid (BxI wr w8.heap.size (V) (BB)) ∧ Hid (BxI wr w10.heap.size (PV) (PP)) ∧ Hid (BxI wr w12.heap.size (PV) (PP)) ∧ Hid (SlH wr 2 (.slice UA n1 uc) n1 (iiC f fk)) ∧ Hid (SlH wr 1 (.slice RA n2 rc) n2 (iC fx)) ∧ Hid (SlH wr 2 (.slice CA n3 cc) n3 (iiC m b)) ∧ Hid (SlH wr 2 (.slice BA n4 bc) n4 (iiC bv bb)))
          case atStart => exact ⟨0, by omega, by omega, rfl, hB400, HK400, HP400, HQ400, SL400, SR400, SC400, SB400⟩
          case round =>
            obtain ⟨j, hj, hgj, rfl, hB500, HK500, HP500, HQ500, SL500, SR500, SC500, SB500⟩ := hrel
            have hzr := hB500.size
            by_cases hjn : j + 1 < n3
            · obtain ⟨y1, y2, y3, y4, y5, y6⟩ := HFF.out (j + 1) (by omega) hjn
              simp only [Nat.add_sub_cancel] at y1 y3 y4 y6
              obtain ⟨ha, hle, hsl⟩ := SC500.out
              obtain ⟨A1, c1, e1, _, hA1⟩ := hsl.open_
              cases e1
              obtain ⟨b1, o1, rfl, _, p2, p3⟩ := hA1 (by omega)
              have HCC : Hid (∀ W, Below wr.heap.size wr W → (W.cell? ⟨b1, o1 + j * 2, none⟩ = some (.int .i64 (m j)) ∧ W.cell? ⟨b1, o1 + j * 2 + 1, none⟩ = some (.int .i64 (b j))) ∧ W.cell? ⟨b1, o1 + (j + 1) * 2, none⟩ = some (.int .i64 (m (j + 1))) ∧ W.cell? ⟨b1, o1 + (j + 1) * 2 + 1, none⟩ = some (.int .i64 (b (j + 1)))) := fun W hW =>
                ⟨⟨(hW.cell (p := ⟨b1, o1 + j * 2, none⟩) (by show b1 < _; omega)).trans (p3 j 0 (by omega) (by omega)), (hW.cell (p := ⟨b1, o1 + j * 2 + 1, none⟩) (by show b1 < _; omega)).trans (p3 j 1 (by omega) (by omega))⟩, (hW.cell (p := ⟨b1, o1 + (j + 1) * 2, none⟩) (by show b1 < _; omega)).trans (p3 (j + 1) 0 (by omega) (by omega)), (hW.cell (p := ⟨b1, o1 + (j + 1) * 2 + 1, none⟩) (by show b1 < _; omega)).trans (p3 (j + 1) 1 (by omega) (by omega))⟩
              have l1 : b1 < wr.heap.size := by omega
              clear hA1 p3 hsl
              obtain ⟨⟨d0, d1⟩, d2, d3⟩ := HCC.out wr (Below.refl _ _)
              go_wp2_with fail
              clear d0 d1 d2 d3
              refine (LitresIn_spec x (b j) _).mono ?_
              rintro e w501 ⟨rfl, hb501⟩
              have hz501 := hb501.size
              have HK501 : Hid (BxI w501 w8.heap.size (V) (BB)) := HK500.out.keep (hb501.block _ HK500.out.lt) hb501.size
              clear HK500
              have HP501 : Hid (BxI w501 w10.heap.size (PV) (PP)) := HP500.out.keep (hb501.block _ HP500.out.lt) hb501.size
              clear HP500
              have HQ501 : Hid (BxI w501 w12.heap.size (PV) (PP)) := HQ500.out.keep (hb501.block _ HQ500.out.lt) hb501.size
              clear HQ500
              have SL501 : Hid (SlH w501 _ _ _ _) := SL500.out.below hb501
              clear SL500
              have SR501 : Hid (SlH w501 _ _ _ _) := SR500.out.below hb501
              clear SR500
              have SC501 : Hid (SlH w501 _ _ _ _) := SC500.out.below hb501
              clear SC500
              have SB501 : Hid (SlH w501 _ _ _ _) := SB500.out.below hb501
              clear SB500
              have hB501 : Below w.heap.size w w501 := hB500.trans (hb501.mono hB500.size)
              rw [y1]
              have HA1 := hide hb501
              obtain ⟨⟨d0, d1⟩, d2, d3⟩ := HCC.out w501 hb501
              have l2 : b1 < w501.heap.size := by omega
              obtain ⟨K0, K1, Kf, Kl⟩ := HK501.out
              obtain ⟨P0, P1, Pf, Pl⟩ := HP501.out
              obtain ⟨Q0, Q1, Qf, Ql⟩ := HQ501.out
              go_wp2_with fail
              clear K0 K1 Kf Kl P0 P1 Pf Pl Q0 Q1 Qf Ql
              clear d0 d1 d2 d3
              refine (LitresIn_spec x (b (j + 1)) _).mono ?_
              rintro e w502 ⟨rfl, hb502⟩
              have hz502 := hb502.size
              have HK502 : Hid (BxI w502 w8.heap.size (V) (BB)) := HK501.out.keep (hb502.block _ HK501.out.lt) hb502.size
              clear HK501
              have HP502 : Hid (BxI w502 w10.heap.size (PV) (PP)) := HP501.out.keep (hb502.block _ HP501.out.lt) hb502.size
              clear HP501
              have HQ502 : Hid (BxI w502 w12.heap.size (PV) (PP)) := HQ501.out.keep (hb502.block _ HQ501.out.lt) hb502.size
              clear HQ501
              have SL502 : Hid (SlH w502 _ _ _ _) := SL501.out.below hb502
              clear SL501
              have SR502 : Hid (SlH w502 _ _ _ _) := SR501.out.below hb502
              clear SR501
              have SC502 : Hid (SlH w502 _ _ _ _) := SC501.out.below hb502
              clear SC501
              have SB502 : Hid (SlH w502 _ _ _ _) := SB501.out.below hb502
              clear SB501
              have hB502 : Below w.heap.size w w502 := hB501.trans (hb502.mono hB501.size)
              rw [y2]
              clear y1 y2
              obtain ⟨⟨d0, d1⟩, d2, d3⟩ := HCC.out w502 (HA1.out.trans (hb502.mono HA1.out.size))
              have l3 : b1 < w502.heap.size := by omega
              have zA : IntKind.i64.wrap (litInN x (b j) - litInN x (b (j + 1))) = litInN x (b j) - litInN x (b (j + 1)) := IntWalk.i64_in _ (by omega)
              have zM : IntKind.i64.wrap (m (j + 1) - m j) = m (j + 1) - m j := IntWalk.i64_in _ (by omega)
              have hm0 : 0 ≤ wst * (m (j + 1) - m j) := Int.mul_nonneg (by omega) (by omega)
              have hm1 : wst * (m (j + 1) - m j) ≤ 200 * (m (j + 1) - m j) := Int.mul_le_mul_of_nonneg_right (by omega) (by omega)
              have zW : IntKind.i64.wrap (wst * (m (j + 1) - m j)) = wst * (m (j + 1) - m j) := IntWalk.i64_in _ (by omega)
              have dG : decide (litInN x (b j) - litInN x (b (j + 1)) > wst * (m (j + 1) - m j)) = false := decide_eq_false (by omega)
              clear HCC
              go_wp2_with fail
              (refine wp_region_below_lit (by kernel_rfl) (by kernel_rfl) ?_; (repeat (first | go_big_quiet_step ((fail)) | quiet_step ((fail)))); refine wpQuiet_nil ?_; intro w33 hb33; have hz33 := hb33.size; (try (simp at hz33)); obtain ⟨hcw33, hfw33⟩ := bcell hb33; (try (have hy33 : w.heap.size < w33.heap.size := by omega)); (try (have hyy33 : w.heap.size + 1 < w33.heap.size := by omega)))
              clear d0 d1 d2 d3 hcw33 hfw33
              have HK533 : Hid (BxI w33 w8.heap.size (V) (BB)) := HK502.out.keep (hb33.block _ HK502.out.lt) hb33.size
              clear HK502
              have HP533 : Hid (BxI w33 w10.heap.size (PV) (PP)) := HP502.out.keep (hb33.block _ HP502.out.lt) hb33.size
              clear HP502
              have HQ533 : Hid (BxI w33 w12.heap.size (PV) (PP)) := HQ502.out.keep (hb33.block _ HQ502.out.lt) hb33.size
              clear HQ502
              have SL533 : Hid (SlH w33 _ _ _ _) := SL502.out.below hb33
              clear SL502
              have SR533 : Hid (SlH w33 _ _ _ _) := SR502.out.below hb33
              clear SR502
              have SC533 : Hid (SlH w33 _ _ _ _) := SC502.out.below hb33
              clear SC502
              have SB533 : Hid (SlH w33 _ _ _ _) := SB502.out.below hb33
              clear SB502
              have hB533 : Below w.heap.size w w33 := hB502.trans (hb33.mono hB502.size)
              go_wp2_with fail
              go_roundg (n3 - j)
              case measure => omega
              case rel => exact ⟨j + 1, by omega, by omega, by go_num, hB533, HK533, HP533, HQ533, SL533, SR533, SC533, SB533⟩
            · obtain rfl : n3 = j + 1 := by omega
              obtain ⟨K0, K1, Kf, Kl⟩ := HK500.out
              obtain ⟨P0, P1, Pf, Pl⟩ := HP500.out
              obtain ⟨Q0, Q1, Qf, Ql⟩ := HQ500.out
              go_wp2_with fail
              clear K0 K1 Kf Kl P0 P1 Pf Pl Q0 Q1 Qf Ql
              go_meet
              case rel => exact ⟨hB500, HK500, HP500, HQ500, SL500, SR500, SC500, SB500⟩
      case rest => as_aux_lemma =>
        obtain ⟨hB600, HK600, HP600, HQ600, SL600, SR600, SC600, SB600⟩ := hcut
        obtain ⟨K0, K1, Kf, Kl⟩ := HK600.out
        obtain ⟨P0, P1, Pf, Pl⟩ := HP600.out
        obtain ⟨Q0, Q1, Qf, Ql⟩ := HQ600.out
        go_upto_region 34 with fail
        clear K0 K1 Kf Kl P0 P1 Pf Pl Q0 Q1 Qf Ql
        go_cut [338] from 319 to 337 (fun s338 wx => s338 = .bool false ∧ Below w.heap.size w wx ∧ Hid (BxI wx w8.heap.size (V) (BB)) ∧ Hid (BxI wx w10.heap.size (PV) (PP)) ∧ Hid (BxI wx w12.heap.size (PV) (PP)) ∧ Hid (SlH wx 2 (.slice UA n1 uc) n1 (iiC f fk)) ∧ Hid (SlH wx 1 (.slice RA n2 rc) n2 (iC fx)) ∧ Hid (SlH wx 2 (.slice CA n3 cc) n3 (iiC m b)) ∧ Hid (SlH wx 2 (.slice BA n4 bc) n4 (iiC bv bb)))
        case first => as_aux_lemma =>
          cases three with
          | false =>
            obtain ⟨K0, K1, Kf, Kl⟩ := HK600.out
            obtain ⟨P0, P1, Pf, Pl⟩ := HP600.out
            obtain ⟨Q0, Q1, Qf, Ql⟩ := HQ600.out
            go_wp2_with fail
            clear K0 K1 Kf Kl P0 P1 Pf Pl Q0 Q1 Qf Ql
            go_meet
            case rel => exact ⟨rfl, hB600, HK600, HP600, HQ600, SL600, SR600, SC600, SB600⟩
          | true =>
            obtain ⟨t1, t2, t3, t4, t5, t6⟩ := HUF.out rfl
            have z1 : IntKind.i64.wrap (ts - tt) = ts - tt := IntWalk.i64_in _ (by omega)
            have z2 : IntKind.i64.wrap (ts - tt + tr) = ts - tt + tr := IntWalk.i64_in _ (by omega)
            have e1 : decide (T > tt) = false := decide_eq_false (by omega)
            have e2 : decide (T < tr) = false := decide_eq_false (by omega)
            have e3 : (ts - tt + tr != T) = false := by rw [t3]; simp
            clear t3
            obtain ⟨K0, K1, Kf, Kl⟩ := HK600.out
            obtain ⟨P0, P1, Pf, Pl⟩ := HP600.out
            obtain ⟨Q0, Q1, Qf, Ql⟩ := HQ600.out
            go_wp2_with fail
            clear K0 K1 Kf Kl P0 P1 Pf Pl Q0 Q1 Qf Ql
            go_meet
            case rel => exact ⟨rfl, hB600, HK600, HP600, HQ600, SL600, SR600, SC600, SB600⟩
        case rest => as_aux_lemma =>
          obtain ⟨rfl, hB700, HK700, HP700, HQ700, SL700, SR700, SC700, SB700⟩ := hcut
          cases five with
          | false =>
            obtain ⟨K0, K1, Kf, Kl⟩ := HK700.out
            obtain ⟨P0, P1, Pf, Pl⟩ := HP700.out
            obtain ⟨Q0, Q1, Qf, Ql⟩ := HQ700.out
            go_wp2_with fail
            clear K0 K1 Kf Kl P0 P1 Pf Pl Q0 Q1 Qf Ql
            go_ret
            exact ⟨rfl, hB700⟩
          | true =>
            obtain ⟨kc, hkc, hkn, hn10, hPV, hPB, hPo, hkb⟩ := HRF.out rfl
            subst hkc
            have HPV := hide hPV
            clear hPV
            obtain ⟨K0, K1, Kf, Kl⟩ := HK700.out
            obtain ⟨P0, P1, Pf, Pl⟩ := HP700.out
            obtain ⟨Q0, Q1, Qf, Ql⟩ := HQ700.out
            go_upto_region 37 with fail
            clear K0 K1 Kf Kl P0 P1 Pf Pl Q0 Q1 Qf Ql
            go_cut [374] from 340 to 373 (fun s374 wx => s374 = .bool false ∧ Below w.heap.size w wx ∧ Hid (BxI wx w8.heap.size (V) (BB)) ∧ Hid (BxI wx w10.heap.size (PV) (PP)) ∧ Hid (BxI wx w12.heap.size (PV) (PP)) ∧ Hid (SlH wx 2 (.slice UA n1 uc) n1 (iiC f fk)) ∧ Hid (SlH wx 1 (.slice RA n2 rc) n2 (iC fx)) ∧ Hid (SlH wx 2 (.slice CA n3 cc) n3 (iiC m b)) ∧ Hid (SlH wx 2 (.slice BA n4 bc) n4 (iiC bv bb)))
            case first => as_aux_lemma =>
              have q1 : decide (n4 < kc) = false := decide_eq_false (by omega)
              have q1' : decide ((kc : Int) > (n4 : Int)) = false := decide_eq_false (by omega)
              have q2 : (PV != V) = false := by rw [HPV.out]; simp
              have q3 : decide (PP > BB) = false := decide_eq_false (by omega)
              by_cases hk0 : (kc : Int) > 0
              · have q4 : decide ((kc : Int) > 0) = true := decide_eq_true hk0
                have q4' : decide (0 < kc) = true := decide_eq_true (by omega)
                by_cases hpb : PP < bar
                · have q5 : decide (PP < bar) = true := decide_eq_true hpb
                  have q6 : (PP != BB) = false := by
                    rcases hPo with h | h
                    · rw [h]; simp
                    · omega
                  clear hPo hpb hk0
                  obtain ⟨K0, K1, Kf, Kl⟩ := HK700.out
                  obtain ⟨P0, P1, Pf, Pl⟩ := HP700.out
                  obtain ⟨Q0, Q1, Qf, Ql⟩ := HQ700.out
                  go_wp2_with fail
                  clear K0 K1 Kf Kl P0 P1 Pf Pl Q0 Q1 Qf Ql
                  go_meet
                  case rel => exact ⟨rfl, hB700, HK700, HP700, HQ700, SL700, SR700, SC700, SB700⟩
                · have q5 : decide (PP < bar) = false := decide_eq_false hpb
                  clear hPo hpb hk0
                  obtain ⟨K0, K1, Kf, Kl⟩ := HK700.out
                  obtain ⟨P0, P1, Pf, Pl⟩ := HP700.out
                  obtain ⟨Q0, Q1, Qf, Ql⟩ := HQ700.out
                  go_wp2_with fail
                  clear K0 K1 Kf Kl P0 P1 Pf Pl Q0 Q1 Qf Ql
                  go_meet
                  case rel => exact ⟨rfl, hB700, HK700, HP700, HQ700, SL700, SR700, SC700, SB700⟩
              · have q4 : decide ((kc : Int) > 0) = false := decide_eq_false hk0
                have q4' : decide (0 < kc) = false := decide_eq_false (by omega)
                clear hPo hk0
                obtain ⟨K0, K1, Kf, Kl⟩ := HK700.out
                obtain ⟨P0, P1, Pf, Pl⟩ := HP700.out
                obtain ⟨Q0, Q1, Qf, Ql⟩ := HQ700.out
                go_wp2_with fail
                clear K0 K1 Kf Kl P0 P1 Pf Pl Q0 Q1 Qf Ql
                go_meet
                case rel => exact ⟨rfl, hB700, HK700, HP700, HQ700, SL700, SR700, SC700, SB700⟩
            case rest => as_aux_lemma =>
              obtain ⟨rfl, hB800, HK800, HP800, HQ800, SL800, SR800, SC800, SB800⟩ := hcut
              obtain ⟨K0, K1, Kf, Kl⟩ := HK800.out
              obtain ⟨P0, P1, Pf, Pl⟩ := HP800.out
              obtain ⟨Q0, Q1, Qf, Ql⟩ := HQ800.out
              go_wp2_with fail
              clear K0 K1 Kf Kl P0 P1 Pf Pl Q0 Q1 Qf Ql
              go_loopg [377] 25 (fun gn iv wr => ∃ i : Nat, i ≤ n4 ∧ n4 - i < gn ∧ iv = .int .i64 i ∧ Below w.heap.size w wr ∧ Hid (BxI wr w8.heap.size (V) (BB)) ∧ Hid (BxI wr w10.heap.size (PV) (PP)) ∧ Hid (BxI wr w12.heap.size (PV) (PP)) ∧ Hid (SlH wr 2 (.slice UA n1 uc) n1 (iiC f fk)) ∧ Hid (SlH wr 1 (.slice RA n2 rc) n2 (iC fx)) ∧ Hid (SlH wr 2 (.slice CA n3 cc) n3 (iiC m b)) ∧ Hid (SlH wr 2 (.slice BA n4 bc) n4 (iiC bv bb)))
              case atStart => exact ⟨0, by omega, by omega, rfl, hB800, HK800, HP800, HQ800, SL800, SR800, SC800, SB800⟩
              case round =>
                obtain ⟨i, hi, hgi, rfl, hB900, HK900, HP900, HQ900, SL900, SR900, SC900, SB900⟩ := hrel
                have hzr := hB900.size
                by_cases hin : i < n4
                · obtain ⟨ha, hle, hsl⟩ := SB900.out
                  obtain ⟨A1, c1, e1, _, hA1⟩ := hsl.open_
                  cases e1
                  obtain ⟨b1, o1, rfl, _, p2, p3⟩ := hA1 (by omega)
                  have c0 : wr.cell? ⟨b1, o1 + i * 2, none⟩ = some (.int .i64 (bv i)) := p3 i 0 hin (by omega)
                  have c1 : wr.cell? ⟨b1, o1 + i * 2 + 1, none⟩ = some (.int .i64 (bb i)) := p3 i 1 hin (by omega)
                  have l1 : b1 < wr.heap.size := by omega
                  clear hA1 p3 hsl
                  have hb9 : Below wr.heap.size wr (wr.alloc (.cells #[.int .i64 (bv i), .int .i64 (bb i)] 26)) := (Below.refl _ _).alloc (Nat.le_refl _) _
                  have HK901 : Hid (BxI (wr.alloc (.cells #[.int .i64 (bv i), .int .i64 (bb i)] 26)) w8.heap.size (V) (BB)) := HK900.out.keep (hb9.block _ HK900.out.lt) hb9.size
                  clear HK900
                  have HP901 : Hid (BxI (wr.alloc (.cells #[.int .i64 (bv i), .int .i64 (bb i)] 26)) w10.heap.size (PV) (PP)) := HP900.out.keep (hb9.block _ HP900.out.lt) hb9.size
                  clear HP900
                  have HQ901 : Hid (BxI (wr.alloc (.cells #[.int .i64 (bv i), .int .i64 (bb i)] 26)) w12.heap.size (PV) (PP)) := HQ900.out.keep (hb9.block _ HQ900.out.lt) hb9.size
                  clear HQ900
                  have SL901 : Hid (SlH (wr.alloc (.cells #[.int .i64 (bv i), .int .i64 (bb i)] 26)) _ _ _ _) := SL900.out.below hb9
                  clear SL900
                  have SR901 : Hid (SlH (wr.alloc (.cells #[.int .i64 (bv i), .int .i64 (bb i)] 26)) _ _ _ _) := SR900.out.below hb9
                  clear SR900
                  have SC901 : Hid (SlH (wr.alloc (.cells #[.int .i64 (bv i), .int .i64 (bb i)] 26)) _ _ _ _) := SC900.out.below hb9
                  clear SC900
                  have SB901 : Hid (SlH (wr.alloc (.cells #[.int .i64 (bv i), .int .i64 (bb i)] 26)) _ _ _ _) := SB900.out.below hb9
                  clear SB900
                  have hB901 : Below w.heap.size w (wr.alloc (.cells #[.int .i64 (bv i), .int .i64 (bb i)] 26)) := hB900.trans (hb9.mono hB900.size)
                  by_cases hlt : (i : Int) < (kc : Int)
                  · have q1 : decide ((i : Int) < (kc : Int)) = true := decide_eq_true hlt
                    go_wp2_with fail
                    go_roundg (n4 - i)
                    case measure => omega
                    case rel => exact ⟨i + 1, by omega, by omega, by go_num, hB901, HK901, HP901, HQ901, SL901, SR901, SC901, SB901⟩
                  · have q1 : decide ((i : Int) < (kc : Int)) = false := decide_eq_false hlt
                    by_cases hbb : bb i < bar
                    · have q2 : decide (bb i < bar) = true := decide_eq_true hbb
                      go_wp2_with fail
                      go_roundg (n4 - i)
                      case measure => omega
                      case rel => exact ⟨i + 1, by omega, by omega, by go_num, hB901, HK901, HP901, HQ901, SL901, SR901, SC901, SB901⟩
                    · have q2 : decide (bb i < bar) = false := decide_eq_false hbb
                      have q3 : ((i : Int) == (kc : Int)) = false := by
                        have : i ≠ kc := fun e => hbb (by rw [e]; exact hkb (by omega))
                        simp
                        omega
                      go_wp2_with fail
                      go_roundg (n4 - i)
                      case measure => omega
                      case rel => exact ⟨i + 1, by omega, by omega, by go_num, hB901, HK901, HP901, HQ901, SL901, SR901, SC901, SB901⟩
                · obtain rfl : i = n4 := by omega
                  obtain ⟨K0, K1, Kf, Kl⟩ := HK900.out
                  obtain ⟨P0, P1, Pf, Pl⟩ := HP900.out
                  obtain ⟨Q0, Q1, Qf, Ql⟩ := HQ900.out
                  go_wp2_with fail
                  clear K0 K1 Kf Kl P0 P1 Pf Pl Q0 Q1 Qf Ql
                  go_ret
                  exact ⟨rfl, hB900⟩

set_option maxRecDepth 100000 in
theorem FnTeams_lifted (os : Os) (started : os.Started) (H : Type) (enc : TypeId × Value → H) :
    ReturnsInHanded {} Try.checked os 5 .any (Rows.fnTeamsSpec.pre6 enc Try.prog Try.f5 Rows.fnTeamsRow.domain false) (Rows.fnTeamsSpec.post enc Try.prog Try.f5 false true false false) := by
  refine returnsInHanded_of_change_sized (C := Try.checked) Try.own started (by kernel_rfl) Try.func5
    (ChangeSpec.witness6 (enc := enc) (C := Try.checked) false ⟨#[], #[.slice none 0 0, .slice none 0 0], []⟩ 8 (by kernel_rfl) (by kernel_rfl) (by kernel_rfl) (by kernel_rfl)) ?_
  intro W base args ds gs before hval0 hW _ hsz _
  have hval : ∀ (j : Nat) t v, Try.f5.params[j]? = some t → args[j]? = some v → Value.okWide Try.prog W .any base t v := hval0
  have hW' := hW
  obtain ⟨p, q, hA0, hV, rfl, hfz, hnd⟩ := hW
  have hA : DataW.TrodAll enc Try.prog W 0 (fun _ => true) true Try.f5.params.toList args.toList ds p := hA0
  rw [Try.params5] at hA hval
  obtain ⟨v0, vs0, d0, ds0, p0, q0, hargs, rfl, rfl, h0, r0⟩ := trodAll_cons hA
  obtain ⟨v1, vs1, d1, ds1, p1, q1, rfl, rfl, rfl, h1, r1⟩ := trodAll_cons r0
  obtain ⟨rfl, rfl, rfl⟩ := trodAll_nil r1
  obtain rfl : args = #[v0, v1] := by cases args; simp_all
  obtain ⟨rfl, rfl⟩ := trodVars_none hV
  have hend : ∀ W', Below W.heap.size W W' → Rows.fnTeamsSpec.post enc Try.prog Try.f5 false true false false W #[v0, v1] (.bool true) W' := fun W' hb =>
    law_post (T := 4) Try.laidOut rfl (by kernel_rfl) rfl Try.underlying4 hW' rfl hb
  clear hW' hA0 hval0
  obtain ⟨A, n, cap, rfl, hk0, hm0, hA0⟩ := openByte (hval 0 _ v0 rfl rfl) h0
  obtain ⟨B, mm, capB, rfl, hk1, hm1, hA1⟩ := openByte (hval 1 _ v1 rfl rfl) h1
  refine (FnTeams_walk A n cap B mm capB W hA0 hA1).mono fun e W' ⟨he, hb⟩ => ?_
  subst he
  exact ⟨_, rfl, hend W' hb⟩
/-- The statement. -/
theorem FnTeams_holds : Rows.FnTeamsSaid :=
  OpenClaim.holds_of_wide 5 Try.f5 rfl rfl rfl rfl rfl rfl rfl ⟨rfl, rfl, rfl, rfl, rfl⟩ rfl rfl rfl rfl rfl (by kernel_rfl) Try.func5 (show joinedFacts Try.prog 5 Try.f5 Rows.fnTeamsSpec Rows.fnTeamsRow = true from by unfold joinedFacts; rw [Try.heard, Try.enters, Try.lifts, Try.laidOut, Try.rowed, Try.made]; kernel_rfl)
    (of_decide_eq_true (by kernel_rfl)) (by unfold Func.isWrapper; first | (rw [if_pos (by decide +kernel)]; kernel_rfl) | (rw [if_neg (by decide +kernel)]; exact ⟨rfl, rfl⟩))
    (fun os started H enc _ => FnTeams_lifted os started H enc)
#print axioms FnTeams_holds

end Go.Proofs.Yteoolhoncgaapaa
