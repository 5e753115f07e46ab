/-
  FnCylinders: the law returns true at every input. No condition.
-/
import Derived.Test.YteoolhoncgaapaaOByte
import Derived.Test.YteoolhoncgaapaaPDrwC
import Derived.Test.YteoolhoncgaapaaFrame
import Derived.Deep.Cut
import Derived.Deep.CutRange
namespace Go.Proofs.Yteoolhoncgaapaa
set_option linter.unusedVariables false
set_option linter.unusedSimpArgs false
open Go.ChangeShapes Go.WideShapes Go.ChangeAt Go.RowKit Go.Joins Go.Deep

set_option maxRecDepth 100000 in
set_option maxHeartbeats 12800000 in
theorem FnCylinders_walk (A : Option Addr) (n cap : Nat) (B : Option Addr) (m capB : Nat) (w : World) (hc : Code w (.slice A n cap)) (hm : Code w (.slice B m capB)) :
    Calls Try.prog 4 #[.slice A n cap, .slice B m capB] w fun e w' => e = .returned (.bool true) ∧ Below w.heap.size w w' := by
  go_enter Try.func4, Try.ntmps4
  go_wp2_with fail
  · go_ret
    exact ⟨rfl, Below.refl _ _⟩
  have hbase : Below w.heap.size w w := Below.refl _ _
  refine (DrawLatestTurn_any _ _ hc).mono ?_
  rintro e w1 ⟨x, y, r, a, s, rfl, hb1⟩
  have hz1 := hb1.size
  have hB1 : Below w.heap.size w w1 := hbase.trans (hb1.mono hbase.size)
  go_wp2_with fail
  obtain ⟨W2, hW2⟩ : ∃ W, W = w1.alloc (.cells #[.int .i64 x, .int .i64 y] 26) := ⟨_, rfl⟩
  rw [← hW2]
  have HX2 : Hid (BxI W2 w1.heap.size x y) := by show BxI _ _ _ _; rw [hW2]; exact BxI.new _ _ _ _
  have hB2 : Below w.heap.size w W2 := by rw [hW2]; exact hB1.alloc hB1.size _
  clear hW2
  refine (LatestTurn_impl x y r a s _).mono ?_
  rintro e w3 ⟨rfl, hb3⟩
  have hz3 := hb3.size
  have HX3 : Hid (BxI w3 w1.heap.size (x) (y)) := HX2.out.keep (hb3.block _ HX2.out.lt) hb3.size
  clear HX2
  have hB3 : Below w.heap.size w w3 := hB2.trans (hb3.mono hB2.size)
  obtain ⟨X0, X1, Xf, Xl⟩ := HX3.out
  go_wp2_with fail
  clear X0 X1 Xf Xl
  refine (LatestTurn_spec x y r a s _).mono ?_
  rintro e w4 ⟨rfl, hb4⟩
  have hz4 := hb4.size
  have HX4 : Hid (BxI w4 w1.heap.size (x) (y)) := HX3.out.keep (hb4.block _ HX3.out.lt) hb4.size
  clear HX3
  have hB4 : Below w.heap.size w w4 := hB3.trans (hb4.mono hB3.size)
  obtain ⟨X0, X1, Xf, Xl⟩ := HX4.out
  go_wp2_with fail
  clear X0 X1 Xf Xl
  refine (MustTurn_impl x y r a s _).mono ?_
  rintro e w5 ⟨rfl, hb5⟩
  have hz5 := hb5.size
  have HX5 : Hid (BxI w5 w1.heap.size (x) (y)) := HX4.out.keep (hb5.block _ HX4.out.lt) hb5.size
  clear HX4
  have hB5 : Below w.heap.size w w5 := hB4.trans (hb5.mono hB4.size)
  obtain ⟨X0, X1, Xf, Xl⟩ := HX5.out
  go_wp2_with fail
  clear X0 X1 Xf Xl
  refine (MustTurn_spec x y r a s _).mono ?_
  rintro e w6 ⟨rfl, hb6⟩
  have hz6 := hb6.size
  have HX6 : Hid (BxI w6 w1.heap.size (x) (y)) := HX5.out.keep (hb6.block _ HX5.out.lt) hb6.size
  clear HX5
  have hB6 : Below w.heap.size w w6 := hB5.trans (hb6.mono hB5.size)
  obtain ⟨X0, X1, Xf, Xl⟩ := HX6.out
  go_wp2_with fail
  clear X0 X1 Xf Xl
  refine (DrawMinutesTo_any _ _ (hm.below hB6 (Nat.le_refl _))).mono ?_
  rintro e w7 ⟨v, b, q, t, rfl, hb7⟩
  have hz7 := hb7.size
  have HX7 : Hid (BxI w7 w1.heap.size (x) (y)) := HX6.out.keep (hb7.block _ HX6.out.lt) hb7.size
  clear HX6
  have hB7 : Below w.heap.size w w7 := hB6.trans (hb7.mono hB6.size)
  obtain ⟨X0, X1, Xf, Xl⟩ := HX7.out
  go_wp2_with fail
  clear X0 X1 Xf Xl
  obtain ⟨W8, hW8⟩ : ∃ W, W = w7.alloc (.cells #[.int .i64 v, .int .i64 b] 26) := ⟨_, rfl⟩
  rw [← hW8]
  have HX8 : Hid (BxI W8 w1.heap.size (x) (y)) := by show BxI _ _ _ _; rw [hW8]; exact HX7.out.alloc _
  clear HX7
  have HY8 : Hid (BxI W8 w7.heap.size v b) := by show BxI _ _ _ _; rw [hW8]; exact BxI.new _ _ _ _
  have hB8 : Below w.heap.size w W8 := by rw [hW8]; exact hB7.alloc hB7.size _
  clear hW8
  refine (MinutesTo_impl v b q t _).mono ?_
  rintro e w9 ⟨rfl, hb9⟩
  have hz9 := hb9.size
  have HX9 : Hid (BxI w9 w1.heap.size (x) (y)) := HX8.out.keep (hb9.block _ HX8.out.lt) hb9.size
  clear HX8
  have HY9 : Hid (BxI w9 w7.heap.size (v) (b)) := HY8.out.keep (hb9.block _ HY8.out.lt) hb9.size
  clear HY8
  have hB9 : Below w.heap.size w w9 := hB8.trans (hb9.mono hB8.size)
  obtain ⟨X0, X1, Xf, Xl⟩ := HX9.out
  obtain ⟨Y0, Y1, Yf, Yl⟩ := HY9.out
  go_wp2_with fail
  clear X0 X1 Xf Xl Y0 Y1 Yf Yl
  refine (MinutesTo_spec v b q t _).mono ?_
  rintro e w10 ⟨rfl, hb10⟩
  have hz10 := hb10.size
  have HX10 : Hid (BxI w10 w1.heap.size (x) (y)) := HX9.out.keep (hb10.block _ HX9.out.lt) hb10.size
  clear HX9
  have HY10 : Hid (BxI w10 w7.heap.size (v) (b)) := HY9.out.keep (hb10.block _ HY9.out.lt) hb10.size
  clear HY9
  have hB10 : Below w.heap.size w w10 := hB9.trans (hb10.mono hB9.size)
  obtain ⟨X0, X1, Xf, Xl⟩ := HX10.out
  obtain ⟨Y0, Y1, Yf, Yl⟩ := HY10.out
  go_wp2_with fail
  clear X0 X1 Xf Xl Y0 Y1 Yf Yl
  refine (DrawBarAfter_any _ _ (hm.below hB10 (Nat.le_refl _))).mono ?_
  rintro e w11 ⟨c, d, i, j, rfl, hb11⟩
  have hz11 := hb11.size
  have HX11 : Hid (BxI w11 w1.heap.size (x) (y)) := HX10.out.keep (hb11.block _ HX10.out.lt) hb11.size
  clear HX10
  have HY11 : Hid (BxI w11 w7.heap.size (v) (b)) := HY10.out.keep (hb11.block _ HY10.out.lt) hb11.size
  clear HY10
  have hB11 : Below w.heap.size w w11 := hB10.trans (hb11.mono hB10.size)
  obtain ⟨X0, X1, Xf, Xl⟩ := HX11.out
  obtain ⟨Y0, Y1, Yf, Yl⟩ := HY11.out
  go_wp2_with fail
  clear X0 X1 Xf Xl Y0 Y1 Yf Yl
  obtain ⟨W12, hW12⟩ : ∃ W, W = w11.alloc (.cells #[.int .i64 c, .int .i64 d] 26) := ⟨_, rfl⟩
  rw [← hW12]
  have HX12 : Hid (BxI W12 w1.heap.size (x) (y)) := by show BxI _ _ _ _; rw [hW12]; exact HX11.out.alloc _
  clear HX11
  have HY12 : Hid (BxI W12 w7.heap.size (v) (b)) := by show BxI _ _ _ _; rw [hW12]; exact HY11.out.alloc _
  clear HY11
  have HZ12 : Hid (BxI W12 w11.heap.size c d) := by show BxI _ _ _ _; rw [hW12]; exact BxI.new _ _ _ _
  have hB12 : Below w.heap.size w W12 := by rw [hW12]; exact hB11.alloc hB11.size _
  clear hW12
  refine (BarAfter_impl c d i j _).mono ?_
  rintro e w13 ⟨rfl, hb13⟩
  have hz13 := hb13.size
  have HX13 : Hid (BxI w13 w1.heap.size (x) (y)) := HX12.out.keep (hb13.block _ HX12.out.lt) hb13.size
  clear HX12
  have HY13 : Hid (BxI w13 w7.heap.size (v) (b)) := HY12.out.keep (hb13.block _ HY12.out.lt) hb13.size
  clear HY12
  have HZ13 : Hid (BxI w13 w11.heap.size (c) (d)) := HZ12.out.keep (hb13.block _ HZ12.out.lt) hb13.size
  clear HZ12
  have hB13 : Below w.heap.size w w13 := hB12.trans (hb13.mono hB12.size)
  obtain ⟨X0, X1, Xf, Xl⟩ := HX13.out
  obtain ⟨Y0, Y1, Yf, Yl⟩ := HY13.out
  obtain ⟨Z0, Z1, Zf, Zl⟩ := HZ13.out
  go_wp2_with fail
  clear X0 X1 Xf Xl Y0 Y1 Yf Yl Z0 Z1 Zf Zl
  refine (BarAfter_spec c d i j _).mono ?_
  rintro e w14 ⟨rfl, hb14⟩
  have hz14 := hb14.size
  have HX14 : Hid (BxI w14 w1.heap.size (x) (y)) := HX13.out.keep (hb14.block _ HX13.out.lt) hb14.size
  clear HX13
  have HY14 : Hid (BxI w14 w7.heap.size (v) (b)) := HY13.out.keep (hb14.block _ HY13.out.lt) hb14.size
  clear HY13
  have HZ14 : Hid (BxI w14 w11.heap.size (c) (d)) := HZ13.out.keep (hb14.block _ HZ13.out.lt) hb14.size
  clear HZ13
  have hB14 : Below w.heap.size w w14 := hB13.trans (hb14.mono hB13.size)
  obtain ⟨X0, X1, Xf, Xl⟩ := HX14.out
  obtain ⟨Y0, Y1, Yf, Yl⟩ := HY14.out
  obtain ⟨Z0, Z1, Zf, Zl⟩ := HZ14.out
  go_wp2_with fail
  clear X0 X1 Xf Xl Y0 Y1 Yf Yl Z0 Z1 Zf Zl
  refine (LitresIn_impl c d _).mono ?_
  rintro e w15 ⟨rfl, hb15⟩
  have hz15 := hb15.size
  have HX15 : Hid (BxI w15 w1.heap.size (x) (y)) := HX14.out.keep (hb15.block _ HX14.out.lt) hb15.size
  clear HX14
  have HY15 : Hid (BxI w15 w7.heap.size (v) (b)) := HY14.out.keep (hb15.block _ HY14.out.lt) hb15.size
  clear HY14
  have HZ15 : Hid (BxI w15 w11.heap.size (c) (d)) := HZ14.out.keep (hb15.block _ HZ14.out.lt) hb15.size
  clear HZ14
  have hB15 : Below w.heap.size w w15 := hB14.trans (hb15.mono hB14.size)
  obtain ⟨X0, X1, Xf, Xl⟩ := HX15.out
  obtain ⟨Y0, Y1, Yf, Yl⟩ := HY15.out
  obtain ⟨Z0, Z1, Zf, Zl⟩ := HZ15.out
  go_wp2_with fail
  clear X0 X1 Xf Xl Y0 Y1 Yf Yl Z0 Z1 Zf Zl
  refine (LitresIn_spec c d _).mono ?_
  rintro e w16 ⟨rfl, hb16⟩
  have hz16 := hb16.size
  have HX16 : Hid (BxI w16 w1.heap.size (x) (y)) := HX15.out.keep (hb16.block _ HX15.out.lt) hb16.size
  clear HX15
  have HY16 : Hid (BxI w16 w7.heap.size (v) (b)) := HY15.out.keep (hb16.block _ HY15.out.lt) hb16.size
  clear HY15
  have HZ16 : Hid (BxI w16 w11.heap.size (c) (d)) := HZ15.out.keep (hb16.block _ HZ15.out.lt) hb16.size
  clear HZ15
  have hB16 : Below w.heap.size w w16 := hB15.trans (hb16.mono hB15.size)
  obtain ⟨X0, X1, Xf, Xl⟩ := HX16.out
  obtain ⟨Y0, Y1, Yf, Yl⟩ := HY16.out
  obtain ⟨Z0, Z1, Zf, Zl⟩ := HZ16.out
  go_upto_region 16 with fail
  clear X0 X1 Xf Xl Y0 Y1 Yf Yl Z0 Z1 Zf Zl
  have LF := late_facts (v := x) (b := y) (r := r) (a := a) (s := s)
  have LN := late_none (v := x) (b := y) (r := r) (a := a) (s := s)
  have MF := min_facts (v := v) (b := b) (r := q) (s := t)
  have AF := aft_facts (v := c) (b := d) (r := i) (a := j)
  obtain ⟨ok, hok⟩ : ∃ z, lateOk x y r a s = z := ⟨_, rfl⟩
  rw [hok] at LF LN ⊢
  clear hok
  obtain ⟨N, hN⟩ : ∃ z, lateN x y r a s = z := ⟨_, rfl⟩
  rw [hN] at LF ⊢
  clear hN
  obtain ⟨one, hone⟩ : ∃ z, askB x y r a s = z := ⟨_, rfl⟩
  rw [hone] at LF LN ⊢
  clear hone
  obtain ⟨mu, hmu⟩ : ∃ z, mustB x y r a s = z := ⟨_, rfl⟩
  rw [hmu] at LF LN ⊢
  clear hmu
  obtain ⟨three, hthree⟩ : ∃ z, minB v b q t = z := ⟨_, rfl⟩
  rw [hthree] at MF ⊢
  clear hthree
  obtain ⟨T, hT⟩ : ∃ z, minN v b q t = z := ⟨_, rfl⟩
  rw [hT] at MF ⊢
  clear hT
  obtain ⟨five, hfive⟩ : ∃ z, barAfOk c d i j = z := ⟨_, rfl⟩
  rw [hfive] at AF ⊢
  clear hfive
  obtain ⟨P, hP⟩ : ∃ z, barAfN c d i j = z := ⟨_, rfl⟩
  rw [hP] at AF ⊢
  clear hP
  obtain ⟨seven, hseven⟩ : ∃ z, cylB c d = z := ⟨_, rfl⟩
  rw [hseven] at AF ⊢
  have HSV := hide hseven
  clear hseven
  obtain ⟨L, hL⟩ : ∃ z, litInN c d = z := ⟨_, rfl⟩
  rw [hL] at AF ⊢
  clear hL
  have HLF := hide LF
  clear LF
  have HLN := hide LN
  clear LN
  have HMF := hide MF
  clear MF
  have HAF := hide AF
  clear AF
  go_cut [211] from 144 to 210 (fun s211 wx => s211 = .bool false ∧ Below w.heap.size w wx ∧ Hid (BxI wx w1.heap.size (x) (y)) ∧ Hid (BxI wx w7.heap.size (v) (b)) ∧ Hid (BxI wx w11.heap.size (c) (d)))
  case first => as_aux_lemma =>
    have AF := HAF.out
    have LF := HLF.out
    cases ok with
    | false =>
      cases five with
      | false =>
        clear AF LF
        obtain ⟨X0, X1, Xf, Xl⟩ := HX16.out
        obtain ⟨Y0, Y1, Yf, Yl⟩ := HY16.out
        obtain ⟨Z0, Z1, Zf, Zl⟩ := HZ16.out
        go_wp2_with fail
        clear X0 X1 Xf Xl Y0 Y1 Yf Yl Z0 Z1 Zf Zl
        refine (IsCylinder_impl c d _).mono ?_
        rintro e w17 ⟨rfl, hb17⟩
        have hz17 := hb17.size
        have HX17 : Hid (BxI w17 w1.heap.size (x) (y)) := HX16.out.keep (hb17.block _ HX16.out.lt) hb17.size
        clear HX16
        have HY17 : Hid (BxI w17 w7.heap.size (v) (b)) := HY16.out.keep (hb17.block _ HY16.out.lt) hb17.size
        clear HY16
        have HZ17 : Hid (BxI w17 w11.heap.size (c) (d)) := HZ16.out.keep (hb17.block _ HZ16.out.lt) hb17.size
        clear HZ16
        have hB17 : Below w.heap.size w w17 := hB16.trans (hb17.mono hB16.size)
        rw [HSV.out]
        obtain ⟨X0, X1, Xf, Xl⟩ := HX17.out
        obtain ⟨Y0, Y1, Yf, Yl⟩ := HY17.out
        obtain ⟨Z0, Z1, Zf, Zl⟩ := HZ17.out
        go_wp2_with fail
        clear X0 X1 Xf Xl Y0 Y1 Yf Yl Z0 Z1 Zf Zl
        go_meet
        case rel => exact ⟨rfl, hB17, HX17, HY17, HZ17⟩
      | true =>
        obtain rfl := (AF rfl).1
        clear AF LF
        obtain ⟨X0, X1, Xf, Xl⟩ := HX16.out
        obtain ⟨Y0, Y1, Yf, Yl⟩ := HY16.out
        obtain ⟨Z0, Z1, Zf, Zl⟩ := HZ16.out
        go_wp2_with fail
        clear X0 X1 Xf Xl Y0 Y1 Yf Yl Z0 Z1 Zf Zl
        refine (IsCylinder_impl c d _).mono ?_
        rintro e w17 ⟨rfl, hb17⟩
        have hz17 := hb17.size
        have HX17 : Hid (BxI w17 w1.heap.size (x) (y)) := HX16.out.keep (hb17.block _ HX16.out.lt) hb17.size
        clear HX16
        have HY17 : Hid (BxI w17 w7.heap.size (v) (b)) := HY16.out.keep (hb17.block _ HY16.out.lt) hb17.size
        clear HY16
        have HZ17 : Hid (BxI w17 w11.heap.size (c) (d)) := HZ16.out.keep (hb17.block _ HZ16.out.lt) hb17.size
        clear HZ16
        have hB17 : Below w.heap.size w w17 := hB16.trans (hb17.mono hB16.size)
        rw [HSV.out]
        obtain ⟨X0, X1, Xf, Xl⟩ := HX17.out
        obtain ⟨Y0, Y1, Yf, Yl⟩ := HY17.out
        obtain ⟨Z0, Z1, Zf, Zl⟩ := HZ17.out
        go_wp2_with fail
        clear X0 X1 Xf Xl Y0 Y1 Yf Yl Z0 Z1 Zf Zl
        go_meet
        case rel => exact ⟨rfl, hB17, HX17, HY17, HZ17⟩
    | true =>
      obtain rfl := (LF rfl).1
      cases five with
      | false =>
        clear AF LF
        obtain ⟨X0, X1, Xf, Xl⟩ := HX16.out
        obtain ⟨Y0, Y1, Yf, Yl⟩ := HY16.out
        obtain ⟨Z0, Z1, Zf, Zl⟩ := HZ16.out
        go_wp2_with fail
        clear X0 X1 Xf Xl Y0 Y1 Yf Yl Z0 Z1 Zf Zl
        refine (IsCylinder_impl c d _).mono ?_
        rintro e w17 ⟨rfl, hb17⟩
        have hz17 := hb17.size
        have HX17 : Hid (BxI w17 w1.heap.size (x) (y)) := HX16.out.keep (hb17.block _ HX16.out.lt) hb17.size
        clear HX16
        have HY17 : Hid (BxI w17 w7.heap.size (v) (b)) := HY16.out.keep (hb17.block _ HY16.out.lt) hb17.size
        clear HY16
        have HZ17 : Hid (BxI w17 w11.heap.size (c) (d)) := HZ16.out.keep (hb17.block _ HZ16.out.lt) hb17.size
        clear HZ16
        have hB17 : Below w.heap.size w w17 := hB16.trans (hb17.mono hB16.size)
        rw [HSV.out]
        obtain ⟨X0, X1, Xf, Xl⟩ := HX17.out
        obtain ⟨Y0, Y1, Yf, Yl⟩ := HY17.out
        obtain ⟨Z0, Z1, Zf, Zl⟩ := HZ17.out
        go_wp2_with fail
        clear X0 X1 Xf Xl Y0 Y1 Yf Yl Z0 Z1 Zf Zl
        go_meet
        case rel => exact ⟨rfl, hB17, HX17, HY17, HZ17⟩
      | true =>
        obtain rfl := (AF rfl).1
        clear AF LF
        obtain ⟨X0, X1, Xf, Xl⟩ := HX16.out
        obtain ⟨Y0, Y1, Yf, Yl⟩ := HY16.out
        obtain ⟨Z0, Z1, Zf, Zl⟩ := HZ16.out
        go_wp2_with fail
        clear X0 X1 Xf Xl Y0 Y1 Yf Yl Z0 Z1 Zf Zl
        refine (IsCylinder_impl c d _).mono ?_
        rintro e w17 ⟨rfl, hb17⟩
        have hz17 := hb17.size
        have HX17 : Hid (BxI w17 w1.heap.size (x) (y)) := HX16.out.keep (hb17.block _ HX16.out.lt) hb17.size
        clear HX16
        have HY17 : Hid (BxI w17 w7.heap.size (v) (b)) := HY16.out.keep (hb17.block _ HY16.out.lt) hb17.size
        clear HY16
        have HZ17 : Hid (BxI w17 w11.heap.size (c) (d)) := HZ16.out.keep (hb17.block _ HZ16.out.lt) hb17.size
        clear HZ16
        have hB17 : Below w.heap.size w w17 := hB16.trans (hb17.mono hB16.size)
        rw [HSV.out]
        obtain ⟨X0, X1, Xf, Xl⟩ := HX17.out
        obtain ⟨Y0, Y1, Yf, Yl⟩ := HY17.out
        obtain ⟨Z0, Z1, Zf, Zl⟩ := HZ17.out
        go_wp2_with fail
        clear X0 X1 Xf Xl Y0 Y1 Yf Yl Z0 Z1 Zf Zl
        go_meet
        case rel => exact ⟨rfl, hB17, HX17, HY17, HZ17⟩
  case rest => as_aux_lemma =>
    obtain ⟨rfl, hB100, HX100, HY100, HZ100⟩ := hcut
    obtain ⟨X0, X1, Xf, Xl⟩ := HX100.out
    obtain ⟨Y0, Y1, Yf, Yl⟩ := HY100.out
    obtain ⟨Z0, Z1, Zf, Zl⟩ := HZ100.out
    go_upto_if 212 with fail
    clear X0 X1 Xf Xl Y0 Y1 Yf Yl Z0 Z1 Zf Zl
    go_cut [] from 213 to 252 (fun wx => Below w.heap.size w wx ∧ Hid (BxI wx w1.heap.size (x) (y)) ∧ Hid (BxI wx w7.heap.size (v) (b)) ∧ Hid (BxI wx w11.heap.size (c) (d)))
    case first => as_aux_lemma =>
      cases ok with
      | false =>
        obtain ⟨X0, X1, Xf, Xl⟩ := HX100.out
        obtain ⟨Y0, Y1, Yf, Yl⟩ := HY100.out
        obtain ⟨Z0, Z1, Zf, Zl⟩ := HZ100.out
        go_wp2_with fail
        clear X0 X1 Xf Xl Y0 Y1 Yf Yl Z0 Z1 Zf Zl
        go_meet
        case rel => exact ⟨hB100, HX100, HY100, HZ100⟩
      | true =>
        obtain ⟨L1x, L2, L2b, L3, L4⟩ := HLF.out rfl
        clear L1x
        have za : IntKind.i64.wrap (a + N) = a + N := IntWalk.i64_in _ (by omega)
        have l4 : (!(mu == (N == 0))) = false := by rw [L4]; simp
        have HL4 := hide L4
        clear L4
        obtain ⟨X0, X1, Xf, Xl⟩ := HX100.out
        obtain ⟨Y0, Y1, Yf, Yl⟩ := HY100.out
        obtain ⟨Z0, Z1, Zf, Zl⟩ := HZ100.out
        go_wp2_with fail
        clear X0 X1 Xf Xl Y0 Y1 Yf Yl Z0 Z1 Zf Zl
        refine (BarAfter_impl x y r (a + N) _).mono ?_
        rintro e w101 ⟨rfl, hb101⟩
        have hz101 := hb101.size
        have HX101 : Hid (BxI w101 w1.heap.size (x) (y)) := HX100.out.keep (hb101.block _ HX100.out.lt) hb101.size
        clear HX100
        have HY101 : Hid (BxI w101 w7.heap.size (v) (b)) := HY100.out.keep (hb101.block _ HY100.out.lt) hb101.size
        clear HY100
        have HZ101 : Hid (BxI w101 w11.heap.size (c) (d)) := HZ100.out.keep (hb101.block _ HZ100.out.lt) hb101.size
        clear HZ100
        have hB101 : Below w.heap.size w w101 := hB100.trans (hb101.mono hB100.size)
        obtain ⟨X0, X1, Xf, Xl⟩ := HX101.out
        obtain ⟨Y0, Y1, Yf, Yl⟩ := HY101.out
        obtain ⟨Z0, Z1, Zf, Zl⟩ := HZ101.out
        go_wp2_with fail
        clear X0 X1 Xf Xl Y0 Y1 Yf Yl Z0 Z1 Zf Zl
        refine (BarAfter_spec x y r (a + N) _).mono ?_
        rintro e w102 ⟨rfl, hb102⟩
        have hz102 := hb102.size
        have HX102 : Hid (BxI w102 w1.heap.size (x) (y)) := HX101.out.keep (hb102.block _ HX101.out.lt) hb102.size
        clear HX101
        have HY102 : Hid (BxI w102 w7.heap.size (v) (b)) := HY101.out.keep (hb102.block _ HY101.out.lt) hb102.size
        clear HY101
        have HZ102 : Hid (BxI w102 w11.heap.size (c) (d)) := HZ101.out.keep (hb102.block _ HZ101.out.lt) hb102.size
        clear HZ101
        have hB102 : Below w.heap.size w w102 := hB101.trans (hb102.mono hB101.size)
        cases L5 : barAfOk x y r (a + N) with
        | false =>
          obtain ⟨X0, X1, Xf, Xl⟩ := HX102.out
          obtain ⟨Y0, Y1, Yf, Yl⟩ := HY102.out
          obtain ⟨Z0, Z1, Zf, Zl⟩ := HZ102.out
          go_wp2_with fail
          clear X0 X1 Xf Xl Y0 Y1 Yf Yl Z0 Z1 Zf Zl
          go_meet
          case rel => exact ⟨hB102, HX102, HY102, HZ102⟩
        | true =>
          have l6 : decide (barAfN x y r (a + N) < s) = false := decide_eq_false (by have := L3 L5; omega)
          obtain ⟨X0, X1, Xf, Xl⟩ := HX102.out
          obtain ⟨Y0, Y1, Yf, Yl⟩ := HY102.out
          obtain ⟨Z0, Z1, Zf, Zl⟩ := HZ102.out
          go_wp2_with fail
          clear X0 X1 Xf Xl Y0 Y1 Yf Yl Z0 Z1 Zf Zl
          go_meet
          case rel => exact ⟨hB102, HX102, HY102, HZ102⟩
    case rest => as_aux_lemma =>
      obtain ⟨hB200, HX200, HY200, HZ200⟩ := hcut
      obtain ⟨X0, X1, Xf, Xl⟩ := HX200.out
      obtain ⟨Y0, Y1, Yf, Yl⟩ := HY200.out
      obtain ⟨Z0, Z1, Zf, Zl⟩ := HZ200.out
      go_upto_region 23 with fail
      clear X0 X1 Xf Xl Y0 Y1 Yf Yl Z0 Z1 Zf Zl
      go_cut [261] from 253 to 260 (fun s261 wx => s261 = .bool false ∧ Below w.heap.size w wx ∧ Hid (BxI wx w1.heap.size (x) (y)) ∧ Hid (BxI wx w7.heap.size (v) (b)) ∧ Hid (BxI wx w11.heap.size (c) (d)))
      case first => as_aux_lemma =>
        have LN := HLN.out
        cases one with
        | false =>
          obtain ⟨X0, X1, Xf, Xl⟩ := HX200.out
          obtain ⟨Y0, Y1, Yf, Yl⟩ := HY200.out
          obtain ⟨Z0, Z1, Zf, Zl⟩ := HZ200.out
          go_wp2_with fail
          clear X0 X1 Xf Xl Y0 Y1 Yf Yl Z0 Z1 Zf Zl
          go_meet
          case rel => exact ⟨rfl, hB200, HX200, HY200, HZ200⟩
        | true =>
          cases ok with
          | false =>
            obtain rfl := LN rfl rfl
            clear LN
            obtain ⟨X0, X1, Xf, Xl⟩ := HX200.out
            obtain ⟨Y0, Y1, Yf, Yl⟩ := HY200.out
            obtain ⟨Z0, Z1, Zf, Zl⟩ := HZ200.out
            go_wp2_with fail
            clear X0 X1 Xf Xl Y0 Y1 Yf Yl Z0 Z1 Zf Zl
            go_meet
            case rel => exact ⟨rfl, hB200, HX200, HY200, HZ200⟩
          | true =>
            clear LN
            obtain ⟨X0, X1, Xf, Xl⟩ := HX200.out
            obtain ⟨Y0, Y1, Yf, Yl⟩ := HY200.out
            obtain ⟨Z0, Z1, Zf, Zl⟩ := HZ200.out
            go_wp2_with fail
            clear X0 X1 Xf Xl Y0 Y1 Yf Yl Z0 Z1 Zf Zl
            go_meet
            case rel => exact ⟨rfl, hB200, HX200, HY200, HZ200⟩
      case rest => as_aux_lemma =>
        obtain ⟨rfl, hB300, HX300, HY300, HZ300⟩ := hcut
        obtain ⟨X0, X1, Xf, Xl⟩ := HX300.out
        obtain ⟨Y0, Y1, Yf, Yl⟩ := HY300.out
        obtain ⟨Z0, Z1, Zf, Zl⟩ := HZ300.out
        go_upto_if 262 with fail
        clear X0 X1 Xf Xl Y0 Y1 Yf Yl Z0 Z1 Zf Zl
        go_cut [] from 263 to 310 (fun wx => Below w.heap.size w wx ∧ Hid (BxI wx w1.heap.size (x) (y)) ∧ Hid (BxI wx w7.heap.size (v) (b)) ∧ Hid (BxI wx w11.heap.size (c) (d)))
        case first => as_aux_lemma =>
          cases three with
          | false =>
            obtain ⟨X0, X1, Xf, Xl⟩ := HX300.out
            obtain ⟨Y0, Y1, Yf, Yl⟩ := HY300.out
            obtain ⟨Z0, Z1, Zf, Zl⟩ := HZ300.out
            go_wp2_with fail
            clear X0 X1 Xf Xl Y0 Y1 Yf Yl Z0 Z1 Zf Zl
            go_meet
            case rel => exact ⟨hB300, HX300, HY300, HZ300⟩
          | true =>
            obtain ⟨M0, M1, M2, M3⟩ := HMF.out rfl
            have m2 : decide (barAfN v b q T < t) = false := decide_eq_false (by omega)
            obtain ⟨X0, X1, Xf, Xl⟩ := HX300.out
            obtain ⟨Y0, Y1, Yf, Yl⟩ := HY300.out
            obtain ⟨Z0, Z1, Zf, Zl⟩ := HZ300.out
            go_wp2_with fail
            clear X0 X1 Xf Xl Y0 Y1 Yf Yl Z0 Z1 Zf Zl
            refine (BarAfter_impl v b q T _).mono ?_
            rintro e w301 ⟨rfl, hb301⟩
            have hz301 := hb301.size
            have HX301 : Hid (BxI w301 w1.heap.size (x) (y)) := HX300.out.keep (hb301.block _ HX300.out.lt) hb301.size
            clear HX300
            have HY301 : Hid (BxI w301 w7.heap.size (v) (b)) := HY300.out.keep (hb301.block _ HY300.out.lt) hb301.size
            clear HY300
            have HZ301 : Hid (BxI w301 w11.heap.size (c) (d)) := HZ300.out.keep (hb301.block _ HZ300.out.lt) hb301.size
            clear HZ300
            have hB301 : Below w.heap.size w w301 := hB300.trans (hb301.mono hB300.size)
            rw [M1]
            by_cases M4 : T < 600
            · have m4 : decide (T < 600) = true := decide_eq_true M4
              have M5 := M3 M4
              have zm : IntKind.i64.wrap (T + 1) = T + 1 := IntWalk.i64_in _ (by omega)
              obtain ⟨X0, X1, Xf, Xl⟩ := HX301.out
              obtain ⟨Y0, Y1, Yf, Yl⟩ := HY301.out
              obtain ⟨Z0, Z1, Zf, Zl⟩ := HZ301.out
              go_wp2_with fail
              clear X0 X1 Xf Xl Y0 Y1 Yf Yl Z0 Z1 Zf Zl
              refine (BarAfter_impl v b q (T + 1) _).mono ?_
              rintro e w302 ⟨rfl, hb302⟩
              have hz302 := hb302.size
              have HX302 : Hid (BxI w302 w1.heap.size (x) (y)) := HX301.out.keep (hb302.block _ HX301.out.lt) hb302.size
              clear HX301
              have HY302 : Hid (BxI w302 w7.heap.size (v) (b)) := HY301.out.keep (hb302.block _ HY301.out.lt) hb302.size
              clear HY301
              have HZ302 : Hid (BxI w302 w11.heap.size (c) (d)) := HZ301.out.keep (hb302.block _ HZ301.out.lt) hb302.size
              clear HZ301
              have hB302 : Below w.heap.size w w302 := hB301.trans (hb302.mono hB301.size)
              obtain ⟨X0, X1, Xf, Xl⟩ := HX302.out
              obtain ⟨Y0, Y1, Yf, Yl⟩ := HY302.out
              obtain ⟨Z0, Z1, Zf, Zl⟩ := HZ302.out
              go_wp2_with fail
              clear X0 X1 Xf Xl Y0 Y1 Yf Yl Z0 Z1 Zf Zl
              refine (BarAfter_spec v b q (T + 1) _).mono ?_
              rintro e w303 ⟨rfl, hb303⟩
              have hz303 := hb303.size
              have HX303 : Hid (BxI w303 w1.heap.size (x) (y)) := HX302.out.keep (hb303.block _ HX302.out.lt) hb303.size
              clear HX302
              have HY303 : Hid (BxI w303 w7.heap.size (v) (b)) := HY302.out.keep (hb303.block _ HY302.out.lt) hb303.size
              clear HY302
              have HZ303 : Hid (BxI w303 w11.heap.size (c) (d)) := HZ302.out.keep (hb303.block _ HZ302.out.lt) hb303.size
              clear HZ302
              have hB303 : Below w.heap.size w w303 := hB302.trans (hb303.mono hB302.size)
              cases M6 : barAfOk v b q (T + 1) with
              | false =>
                obtain ⟨X0, X1, Xf, Xl⟩ := HX303.out
                obtain ⟨Y0, Y1, Yf, Yl⟩ := HY303.out
                obtain ⟨Z0, Z1, Zf, Zl⟩ := HZ303.out
                go_wp2_with fail
                clear X0 X1 Xf Xl Y0 Y1 Yf Yl Z0 Z1 Zf Zl
                go_meet
                case rel => exact ⟨hB303, HX303, HY303, HZ303⟩
              | true =>
                have m7 : decide (barAfN v b q (T + 1) ≥ t) = false := decide_eq_false (by have := M5 M6; omega)
                obtain ⟨X0, X1, Xf, Xl⟩ := HX303.out
                obtain ⟨Y0, Y1, Yf, Yl⟩ := HY303.out
                obtain ⟨Z0, Z1, Zf, Zl⟩ := HZ303.out
                go_wp2_with fail
                clear X0 X1 Xf Xl Y0 Y1 Yf Yl Z0 Z1 Zf Zl
                go_meet
                case rel => exact ⟨hB303, HX303, HY303, HZ303⟩
            · have m4 : decide (T < 600) = false := decide_eq_false M4
              obtain ⟨X0, X1, Xf, Xl⟩ := HX301.out
              obtain ⟨Y0, Y1, Yf, Yl⟩ := HY301.out
              obtain ⟨Z0, Z1, Zf, Zl⟩ := HZ301.out
              go_wp2_with fail
              clear X0 X1 Xf Xl Y0 Y1 Yf Yl Z0 Z1 Zf Zl
              go_meet
              case rel => exact ⟨hB301, HX301, HY301, HZ301⟩
        case rest => as_aux_lemma =>
          obtain ⟨hB400, HX400, HY400, HZ400⟩ := hcut
          cases five with
          | false =>
            obtain ⟨X0, X1, Xf, Xl⟩ := HX400.out
            obtain ⟨Y0, Y1, Yf, Yl⟩ := HY400.out
            obtain ⟨Z0, Z1, Zf, Zl⟩ := HZ400.out
            go_wp2_with fail
            go_ret
            exact ⟨rfl, hB400⟩
          | true =>
            obtain ⟨C1, C2, C3, C4, C5, C6, C7⟩ := HAF.out rfl
            have hij : 0 ≤ i * j ∧ i * j ≤ 120000 := by
              have h1 : 0 ≤ i * j := Int.mul_nonneg (by omega) (by omega)
              have h2 : i * j ≤ 200 * j := Int.mul_le_mul_of_nonneg_right (by omega) (by omega)
              omega
            have zij : IntKind.i64.wrap (i * j) = i * j := IntWalk.i64_in _ (by omega)
            have zs : IntKind.i64.wrap (L - i * j) = L - i * j := IntWalk.i64_in _ (by omega)
            have c8 : decide (litInN c P > L - i * j) = false := decide_eq_false (by omega)
            have c9 : decide (P > d) = false := decide_eq_false (by omega)
            clear C1
            obtain ⟨X0, X1, Xf, Xl⟩ := HX400.out
            obtain ⟨Y0, Y1, Yf, Yl⟩ := HY400.out
            obtain ⟨Z0, Z1, Zf, Zl⟩ := HZ400.out
            go_wp2_with fail
            clear X0 X1 Xf Xl Y0 Y1 Yf Yl Z0 Z1 Zf Zl
            refine (LitresIn_impl c P _).mono ?_
            rintro e w401 ⟨rfl, hb401⟩
            have hz401 := hb401.size
            have HX401 : Hid (BxI w401 w1.heap.size (x) (y)) := HX400.out.keep (hb401.block _ HX400.out.lt) hb401.size
            clear HX400
            have HY401 : Hid (BxI w401 w7.heap.size (v) (b)) := HY400.out.keep (hb401.block _ HY400.out.lt) hb401.size
            clear HY400
            have HZ401 : Hid (BxI w401 w11.heap.size (c) (d)) := HZ400.out.keep (hb401.block _ HZ400.out.lt) hb401.size
            clear HZ400
            have hB401 : Below w.heap.size w w401 := hB400.trans (hb401.mono hB400.size)
            obtain ⟨X0, X1, Xf, Xl⟩ := HX401.out
            obtain ⟨Y0, Y1, Yf, Yl⟩ := HY401.out
            obtain ⟨Z0, Z1, Zf, Zl⟩ := HZ401.out
            go_wp2_with fail
            clear X0 X1 Xf Xl Y0 Y1 Yf Yl Z0 Z1 Zf Zl
            refine (LitresIn_spec c P _).mono ?_
            rintro e w402 ⟨rfl, hb402⟩
            have hz402 := hb402.size
            have HX402 : Hid (BxI w402 w1.heap.size (x) (y)) := HX401.out.keep (hb402.block _ HX401.out.lt) hb402.size
            clear HX401
            have HY402 : Hid (BxI w402 w7.heap.size (v) (b)) := HY401.out.keep (hb402.block _ HY401.out.lt) hb402.size
            clear HY401
            have HZ402 : Hid (BxI w402 w11.heap.size (c) (d)) := HZ401.out.keep (hb402.block _ HZ401.out.lt) hb402.size
            clear HZ401
            have hB402 : Below w.heap.size w w402 := hB401.trans (hb402.mono hB401.size)
            rw [C4]
            obtain ⟨X0, X1, Xf, Xl⟩ := HX402.out
            obtain ⟨Y0, Y1, Yf, Yl⟩ := HY402.out
            obtain ⟨Z0, Z1, Zf, Zl⟩ := HZ402.out
            go_wp2_with fail
            go_ret
            exact ⟨rfl, hB402⟩

set_option maxRecDepth 100000 in
theorem FnCylinders_lifted (os : Os) (started : os.Started) (H : Type) (enc : TypeId × Value → H) :
    ReturnsInHanded {} Try.checked os 4 .any (Rows.fnCylindersSpec.pre6 enc Try.prog Try.f4 Rows.fnCylindersRow.domain false) (Rows.fnCylindersSpec.post enc Try.prog Try.f4 false true false false) := by
  refine returnsInHanded_of_change_sized (C := Try.checked) Try.own started (by kernel_rfl) Try.func4
    (ChangeSpec.witness6 (enc := enc) (C := Try.checked) false ⟨#[], #[.slice none 0 0, .slice none 0 0], []⟩ 8 (by kernel_rfl) (by kernel_rfl) (by kernel_rfl) (by kernel_rfl)) ?_
  intro W base args ds gs before hval0 hW _ hsz _
  have hval : ∀ (j : Nat) t v, Try.f4.params[j]? = some t → args[j]? = some v → Value.okWide Try.prog W .any base t v := hval0
  have hW' := hW
  obtain ⟨p, q, hA0, hV, rfl, hfz, hnd⟩ := hW
  have hA : DataW.TrodAll enc Try.prog W 0 (fun _ => true) true Try.f4.params.toList args.toList ds p := hA0
  rw [Try.params4] at hA hval
  obtain ⟨v0, vs0, d0, ds0, p0, q0, hargs, rfl, rfl, h0, r0⟩ := trodAll_cons hA
  obtain ⟨v1, vs1, d1, ds1, p1, q1, rfl, rfl, rfl, h1, r1⟩ := trodAll_cons r0
  obtain ⟨rfl, rfl, rfl⟩ := trodAll_nil r1
  obtain rfl : args = #[v0, v1] := by cases args; simp_all
  obtain ⟨rfl, rfl⟩ := trodVars_none hV
  have hend : ∀ W', Below W.heap.size W W' → Rows.fnCylindersSpec.post enc Try.prog Try.f4 false true false false W #[v0, v1] (.bool true) W' := fun W' hb =>
    law_post (T := 4) Try.laidOut rfl (by kernel_rfl) rfl Try.underlying4 hW' rfl hb
  clear hW' hA0 hval0
  obtain ⟨A, n, cap, rfl, hk0, hm0, hA0⟩ := openByte (hval 0 _ v0 rfl rfl) h0
  obtain ⟨B, m, capB, rfl, hk1, hm1, hA1⟩ := openByte (hval 1 _ v1 rfl rfl) h1
  refine (FnCylinders_walk A n cap B m capB W hA0 hA1).mono fun e W' ⟨he, hb⟩ => ?_
  subst he
  exact ⟨_, rfl, hend W' hb⟩
/-- The statement. -/
theorem FnCylinders_holds : Rows.FnCylindersSaid :=
  OpenClaim.holds_of_wide 4 Try.f4 rfl rfl rfl rfl rfl rfl rfl ⟨rfl, rfl, rfl, rfl, rfl⟩ rfl rfl rfl rfl rfl (by kernel_rfl) Try.func4 (show joinedFacts Try.prog 4 Try.f4 Rows.fnCylindersSpec Rows.fnCylindersRow = true from by unfold joinedFacts; rw [Try.heard, Try.enters, Try.lifts, Try.laidOut, Try.rowed, Try.made]; kernel_rfl)
    (of_decide_eq_true (by kernel_rfl)) (by unfold Func.isWrapper; first | (rw [if_pos (by decide +kernel)]; kernel_rfl) | (rw [if_neg (by decide +kernel)]; exact ⟨rfl, rfl⟩))
    (fun os started H enc _ => FnCylinders_lifted os started H enc)
#print axioms FnCylinders_holds

end Go.Proofs.Yteoolhoncgaapaa
