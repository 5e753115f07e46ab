/-
  FnExactUnconfirmed: the law returns true at every channel. No condition.
-/
import Derived.Test.YtkikjneamjmdlaaOChannel
import Derived.Test.YtkikjneamjmdlaaWUncM
import Derived.Test.YtkikjneamjmdlaaFrame
import Derived.Test.YtkikjneamjmdlaaMix
namespace Go.Proofs.Ytkikjneamjmdlaa
set_option linter.unusedVariables false
set_option linter.unusedSimpArgs false
open Go.ChangeShapes Go.WideShapes Go.ChangeAt Go.RowKit Go.Joins Go.Deep

theorem Box3.onlyU {lo hi : Nat} {w w' : World} {b : Nat} {x y z : Value} (h : Box3 w b x y z) (hO : Only lo hi w w') (hd : b < lo ∨ hi ≤ b) (hs : b < w.heap.size) : Box3 w' b x y z :=
  ⟨(World.cell?_of_block (hO.block b hs hd)).trans h.1, (World.cell?_of_block (hO.block b hs hd)).trans h.2.1, (World.cell?_of_block (hO.block b hs hd)).trans h.2.2⟩
set_option maxRecDepth 100000 in
set_option maxHeartbeats 6400000 in
theorem FnExactUnconfirmed_walk (S R H : Ms) (vS vR vH : Value) (w : World) (hA : ChanIn w S R H vS vR vH) :
    Calls Try.prog 3 #[.agg #[vS, vR, vH]] w fun e w' => e = .returned (.bool true) ∧ Below w.heap.size w w' := by
  obtain ⟨hS, hR, hH, sS, sR, sH⟩ := hA
  obtain ⟨Ax, cx, rfl, _, _⟩ := id hS.open_
  obtain ⟨Bx, dx, rfl, _, _⟩ := id hR.open_
  obtain ⟨Cx, ex, rfl, _, _⟩ := id hH.open_
  cases hd : decide (szCF 1048576 S R H < 0) with
  | true =>
    go_enter Try.func3, Try.ntmps3
    go_wp2_with fail
    refine (szChannel_any S R H 1048576 0 w.heap.size _ _ _ _ (hS.below (B := w.heap.size) (by repeat (first | (with_reducible exact Below.refl _ _) | (with_reducible refine below_ov ?_ ?_) | (with_reducible refine Below.setCell ?_ ?_ _) | (with_reducible refine Below.alloc ?_ ?_ _) | (with_reducible refine Below.drew ?_) | (with_reducible refine below_drewN ?_ _) | (refine Below.trans ?_ (Below.mono ‹Below _ _ _› (by first | omega | (simp; done) | (simp; omega)))) | exact Below.refl _ _ | omega | (focus (simp; done)) | (focus (simp; omega)))) (Nat.le_refl _)) (hR.below (B := w.heap.size) (by repeat (first | (with_reducible exact Below.refl _ _) | (with_reducible refine below_ov ?_ ?_) | (with_reducible refine Below.setCell ?_ ?_ _) | (with_reducible refine Below.alloc ?_ ?_ _) | (with_reducible refine Below.drew ?_) | (with_reducible refine below_drewN ?_ _) | (refine Below.trans ?_ (Below.mono ‹Below _ _ _› (by first | omega | (simp; done) | (simp; omega)))) | exact Below.refl _ _ | omega | (focus (simp; done)) | (focus (simp; omega)))) (Nat.le_refl _)) (hH.below (B := w.heap.size) (by repeat (first | (with_reducible exact Below.refl _ _) | (with_reducible refine below_ov ?_ ?_) | (with_reducible refine Below.setCell ?_ ?_ _) | (with_reducible refine Below.alloc ?_ ?_ _) | (with_reducible refine Below.drew ?_) | (with_reducible refine below_drewN ?_ _) | (refine Below.trans ?_ (Below.mono ‹Below _ _ _› (by first | omega | (simp; done) | (simp; omega)))) | exact Below.refl _ _ | omega | (focus (simp; done)) | (focus (simp; omega)))) (Nat.le_refl _)) (by simp <;> omega) (by omega) (by omega) sS sR sH).mono ?_
    rintro e w1 ⟨rfl, hb1⟩
    have hz1 := hb1.size
    go_wp2_with fail
    go_ret
    exact ⟨rfl, (by repeat (first | (with_reducible exact Below.refl _ _) | (with_reducible refine below_ov ?_ ?_) | (with_reducible refine Below.setCell ?_ ?_ _) | (with_reducible refine Below.alloc ?_ ?_ _) | (with_reducible refine Below.drew ?_) | (with_reducible refine below_drewN ?_ _) | (refine Below.trans ?_ (Below.mono ‹Below _ _ _› (by first | omega | (simp; done) | (simp; omega)))) | exact Below.refl _ _ | omega | (focus (simp; done)) | (focus (simp; omega))))⟩
  | false =>
      have hn := szCF_n (left := 1048576) (by omega) (Int.not_lt.1 (of_decide_eq_false hd))
      have fS : S.fits := ⟨by omega, sS.2⟩
      have fR : R.fits := ⟨by omega, sR.2⟩
      have fH : H.fits := ⟨by omega, sH.2⟩
      have fU := (ucR_fits (S := S) (R := R) (H := H) fS).1
      go_enter Try.func3, Try.ntmps3
      go_wp2_with fail
      refine (szChannel_any S R H 1048576 0 w.heap.size _ _ _ _ (hS.below (B := w.heap.size) (by repeat (first | (with_reducible exact Below.refl _ _) | (with_reducible refine below_ov ?_ ?_) | (with_reducible refine Below.setCell ?_ ?_ _) | (with_reducible refine Below.alloc ?_ ?_ _) | (with_reducible refine Below.drew ?_) | (with_reducible refine below_drewN ?_ _) | (refine Below.trans ?_ (Below.mono ‹Below _ _ _› (by first | omega | (simp; done) | (simp; omega)))) | exact Below.refl _ _ | omega | (focus (simp; done)) | (focus (simp; omega)))) (Nat.le_refl _)) (hR.below (B := w.heap.size) (by repeat (first | (with_reducible exact Below.refl _ _) | (with_reducible refine below_ov ?_ ?_) | (with_reducible refine Below.setCell ?_ ?_ _) | (with_reducible refine Below.alloc ?_ ?_ _) | (with_reducible refine Below.drew ?_) | (with_reducible refine below_drewN ?_ _) | (refine Below.trans ?_ (Below.mono ‹Below _ _ _› (by first | omega | (simp; done) | (simp; omega)))) | exact Below.refl _ _ | omega | (focus (simp; done)) | (focus (simp; omega)))) (Nat.le_refl _)) (hH.below (B := w.heap.size) (by repeat (first | (with_reducible exact Below.refl _ _) | (with_reducible refine below_ov ?_ ?_) | (with_reducible refine Below.setCell ?_ ?_ _) | (with_reducible refine Below.alloc ?_ ?_ _) | (with_reducible refine Below.drew ?_) | (with_reducible refine below_drewN ?_ _) | (refine Below.trans ?_ (Below.mono ‹Below _ _ _› (by first | omega | (simp; done) | (simp; omega)))) | exact Below.refl _ _ | omega | (focus (simp; done)) | (focus (simp; omega)))) (Nat.le_refl _)) (by simp <;> omega) (by omega) (by omega) sS sR sH).mono ?_
      rintro e w1 ⟨rfl, hb1⟩
      have hz1 := hb1.size
      (try simp at hz1)
      have hb01 : Below w.heap.size w w1 := (by repeat (first | (with_reducible exact Below.refl _ _) | (with_reducible refine below_ov ?_ ?_) | (with_reducible refine Below.setCell ?_ ?_ _) | (with_reducible refine Below.alloc ?_ ?_ _) | (with_reducible refine Below.drew ?_) | (with_reducible refine below_drewN ?_ _) | (refine Below.trans ?_ (Below.mono ‹Below _ _ _› (by first | omega | (simp; done) | (simp; omega)))) | exact Below.refl _ _ | omega | (focus (simp; done)) | (focus (simp; omega))))
      have T_1 := hide ((Box3.new w (.slice Ax S.n cx) (.slice Bx R.n dx) (.slice Cx H.n ex) 24).below hb1 (by simp))
      clear hb1
      obtain ⟨x0, x1, x2⟩ := T_1.out
      go_wp2_with fail
      clear x0 x1 x2
      refine (toChannel_any S R H 0 w.heap.size _ _ _ _ (hS.below (B := w.heap.size) hb01 (Nat.le_refl _)) (hR.below (B := w.heap.size) hb01 (Nat.le_refl _)) (hH.below (B := w.heap.size) hb01 (Nat.le_refl _)) (by omega) fS fR fH).mono ?_
      rintro e w2 ⟨uS, uR, uH, rfl, o2S, o2R, o2H, hb2⟩
      have hz2 := hb2.size
      (try simp at hz2)
      have hb02 : Below w.heap.size w w2 := hb01.trans (hb2.mono (by omega))
      have T_2 := hide (T_1.out.below hb2 (by omega))
      clear T_1
      go_wp2_with fail
      refine (Unconfirmed_spec S R H w1.heap.size w2.heap.size _ _ _ _ o2S.sl o2R.sl o2H.sl (Nat.le_refl _) fS fR fH).mono ?_
      rintro e w3 ⟨v3, rfl, o3, hb3⟩
      have hz3 := hb3.size
      (try simp at hz3)
      have hb03 : Below w.heap.size w w3 := hb02.trans (hb3.mono (by omega))
      have T_3 := hide (T_2.out.below hb3 (by omega))
      clear T_2
      have V_3 := hide o3
      clear o3 o2S o2R o2H
      obtain ⟨A3, c3, rfl, _, _⟩ := id V_3.out.sl.open_
      obtain ⟨x0, x1, x2⟩ := T_3.out
      go_wp2_with fail
      clear x0 x1 x2
      refine (toChannel3_any S R H 0 w.heap.size _ _ _ _ (hS.below (B := w.heap.size) hb03 (Nat.le_refl _)) (hR.below (B := w.heap.size) hb03 (Nat.le_refl _)) (hH.below (B := w.heap.size) hb03 (Nat.le_refl _)) (by omega) fS fR fH).mono ?_
      rintro e w4 ⟨yS, yR, yH, m1, m2, rfl, ⟨hm1, hm2, hm3⟩, o4S, o4R, o4H, hb4⟩
      have hz4 := hb4.size
      (try simp at hz4)
      have hb04 : Below w.heap.size w w4 := hb03.trans (hb4.mono (by omega))
      have T_4 := hide (T_3.out.below hb4 (by omega))
      clear T_3
      have V_4 := hide (V_3.out.below hb4 (by omega))
      clear V_3
      have Sx_4 := hide o4S
      have Rx_4 := hide o4R
      have Hx_4 := hide o4H
      obtain ⟨A4, k4, rfl, _, _⟩ := id o4S.sl.open_
      obtain ⟨B4, n4, rfl, _, _⟩ := id o4R.sl.open_
      obtain ⟨C4, p4, rfl, _, _⟩ := id o4H.sl.open_
      clear o4S o4R o4H
      go_wp2_with fail
      refine (Unconfirmed_impl S R H w3.heap.size w4.heap.size _ _ _ _ ((Sx_4.out.alloc (by omega) _).mono (Nat.le_refl _) (by omega)).sl ((Rx_4.out.alloc (by omega) _).mono (by omega) (by omega)).sl ((Hx_4.out.alloc (Nat.le_refl _) _).mono (by omega) (Nat.le_refl _)).sl (by simp) fS fR fH).mono ?_
      rintro e w5 ⟨v5, rfl, o5, hb5t⟩
      have X_5 := hide ((Box3.new w4 (.slice A4 S.n k4) (.slice B4 R.n n4) (.slice C4 H.n p4) 30).below hb5t (by simp))
      have hz5 := hb5t.size
      simp at hz5
      have hb5 : Below w4.heap.size w4 w5 := ((Below.refl w4.heap.size w4).alloc (Nat.le_refl _) _).trans (hb5t.mono (by simp))
      have hb05 : Below w.heap.size w w5 := hb04.trans (hb5.mono (by omega))
      have T_5 := hide (T_4.out.below hb5 (by omega))
      clear T_4
      have V_5 := hide (V_4.out.below hb5 (by omega))
      clear V_4
      have Sx_5 := hide (Sx_4.out.below hb5 (by omega))
      clear Sx_4
      have Rx_5 := hide (Rx_4.out.below hb5 (by omega))
      clear Rx_4
      have Hx_5 := hide (Hx_4.out.below hb5 (by omega))
      clear Hx_4
      have G_5 := hide (o5.mono (lo' := w4.heap.size + 1) (by simp) (Nat.le_refl _))
      clear o5 hb5t
      obtain ⟨A5, c5, rfl, _, _⟩ := id G_5.out.sl.open_
      have hNe := hide (sisL_self (ucR S R H).f (ucR S R H).m (ucR S R H).g (ucR S R H).n)
      go_wp2_with fail
      refine (eqMessageS_any (ucR S R H).f (ucR S R H).m (ucR S R H).g (ucR S R H).f (ucR S R H).m (ucR S R H).g (ucR S R H).n (ucR S R H).n _ _ _ _ _ _ _ G_5.out.sl V_5.out.sl (by omega) (by omega) (by omega) (by omega)).mono ?_
      rintro e w6 ⟨rfl, hb6⟩
      have hz6 := hb6.size
      (try simp at hz6)
      have hb06 : Below w.heap.size w w6 := hb05.trans (hb6.mono (by omega))
      have T_6 := hide (T_5.out.below hb6 (by omega))
      clear T_5
      have V_6 := hide (V_5.out.below hb6 (by omega))
      clear V_5
      have Sx_6 := hide (Sx_5.out.below hb6 (by omega))
      clear Sx_5
      have Rx_6 := hide (Rx_5.out.below hb6 (by omega))
      clear Rx_5
      have Hx_6 := hide (Hx_5.out.below hb6 (by omega))
      clear Hx_5
      have X_6 := hide (X_5.out.below hb6 (by omega))
      clear X_5
      have G_6 := hide (G_5.out.below hb6 (by omega))
      clear G_5
      rw [hNe.out]
      go_wp2_with fail
      have hzd : w6.drew.heap.size = w6.heap.size := rfl
      have HB3 : Hid (∀ w', Below w6.heap.size w6.drew w' → Box3 w' w.heap.size (.slice Ax S.n cx) (.slice Bx R.n dx) (.slice Cx H.n ex)) := fun w' hw' => (show Box3 w6.drew w.heap.size _ _ _ from T_6.out).below hw' (by omega)
      have HB9 : Hid (∀ w', Below w6.heap.size w6.drew w' → Box3 w' w4.heap.size (.slice A4 S.n k4) (.slice B4 R.n n4) (.slice C4 H.n p4)) := fun w' hw' => (show Box3 w6.drew w4.heap.size _ _ _ from X_6.out).below hw' (by omega)
      refine wp_region_mix [(0, true), (1, true), (2, false), (3, false), (4, true)] (fun w' => Below w6.heap.size w6.drew w') (by kernel_rfl) (by kernel_rfl) (by kernel_rfl) (by kernel_rfl) (Below.refl _ _) ?_
      refine mix_look _ (.agg #[.slice A4 S.n k4, .slice B4 R.n n4, .slice C4 H.n p4]) rfl rfl (fun w' hw' => (by obtain ⟨a0, a1, a2⟩ := HB9.out w' hw'; go_simp)) ?_
      go_simp
      refine mix_look _ (.agg #[.slice Ax S.n cx, .slice Bx R.n dx, .slice Cx H.n ex]) rfl rfl (fun w' hw' => (by obtain ⟨a0, a1, a2⟩ := HB3.out w' hw'; go_simp)) ?_
      go_simp
      refine mix_call _ 6 #[.agg #[.slice Ax S.n cx, .slice Bx R.n dx, .slice Cx H.n ex]] rfl rfl (by go_simp) ?_
      refine (toChannel_any S R H 0 w.heap.size _ _ _ _ (hS.below (Below.drew hb06) (Nat.le_refl _)) (hR.below (Below.drew hb06) (Nat.le_refl _)) (hH.below (Below.drew hb06) (Nat.le_refl _)) (by omega) fS fR fH).mono ?_
      rintro e w7 ⟨zS, zR, zH, rfl, o7S, o7R, o7H, hb7'⟩
      have hz7 := hb7'.size
      rw [hzd] at hz7 hb7' o7S o7R o7H
      refine ⟨_, rfl, hb7', ?_⟩
      obtain ⟨A7, k7, rfl, _, _⟩ := id o7S.sl.open_
      obtain ⟨B7, n7, rfl, _, _⟩ := id o7R.sl.open_
      obtain ⟨C7, p7, rfl, _, _⟩ := id o7H.sl.open_
      have hb7 : Below w6.heap.size w6 w7 := (Below.drew (Below.refl _ _)).trans hb7'
      have hb07 : Below w.heap.size w w7 := hb06.trans (hb7.mono (by omega))
      have T_7 := hide (T_6.out.below hb7 (by omega))
      clear T_6
      have V_7 := hide (V_6.out.below hb7 (by omega))
      clear V_6
      have Sx_7 := hide (Sx_6.out.below hb7 (by omega))
      clear Sx_6
      have Rx_7 := hide (Rx_6.out.below hb7 (by omega))
      clear Rx_6
      have Hx_7 := hide (Hx_6.out.below hb7 (by omega))
      clear Hx_6
      have X_7 := hide (X_6.out.below hb7 (by omega))
      clear X_6
      have G_7 := hide (G_6.out.below hb7 (by omega))
      clear G_6
      go_simp
      refine mix_call _ 9 #[.agg #[.slice A4 S.n k4, .slice B4 R.n n4, .slice C4 H.n p4], .agg #[.slice A7 S.n k7, .slice B7 R.n n7, .slice C7 H.n p7]] rfl rfl (by go_simp) ?_
      refine (eqChannel_same S R H w3.heap.size w4.heap.size _ _ _ _ _ _ _ _ _ (Sx_7.out.mono (Nat.le_refl _) (by omega)).sl (Rx_7.out.mono (by omega) (by omega)).sl (Hx_7.out.mono (by omega) (Nat.le_refl _)).sl o7S.sl o7R.sl o7H.sl (by omega) (by omega) fS fR fH).mono ?_
      rintro e w8 ⟨rfl, hb8⟩
      have hz8 := hb8.size
      (try simp at hz8)
      have hb08 : Below w.heap.size w w8 := hb07.trans (hb8.mono (by omega))
      refine ⟨_, rfl, hb7'.trans (hb8.mono (by omega)), ?_⟩
      have T_8 := hide (T_7.out.below hb8 (by omega))
      clear T_7
      have V_8 := hide (V_7.out.below hb8 (by omega))
      clear V_7
      have Sx_8 := hide (Sx_7.out.below hb8 (by omega))
      clear Sx_7
      have Rx_8 := hide (Rx_7.out.below hb8 (by omega))
      clear Rx_7
      have Hx_8 := hide (Hx_7.out.below hb8 (by omega))
      clear Hx_7
      have X_8 := hide (X_7.out.below hb8 (by omega))
      clear X_7
      have G_8 := hide (G_7.out.below hb8 (by omega))
      clear G_7
      clear o7S o7R o7H HB3 HB9 hb7'
      go_simp
      refine mix_look _ (.bool false) rfl rfl (fun w' _ => (by go_simp)) ?_
      go_simp
      refine wpMix_nil ?_
      obtain ⟨y0, y1, y2⟩ := X_8.out
      go_wp2_with fail
      clear y0 y1 y2
      refine (markChannel_any 1 S R H w3.heap.size m1 m2 w4.heap.size _ _ _ _ Sx_8.out Rx_8.out Hx_8.out hm1 hm2 hm3 (by omega) fS fR fH (by omega) (by omega)).mono ?_
      rintro e w9 ⟨rfl, hO9⟩
      have hz9 := hO9.size
      have hb09 : Below w.heap.size w w9 := hb08.trans (hO9.below (by omega) (by omega))
      clear Sx_8
      clear Rx_8
      clear Hx_8
      clear X_8
      have T_9 := hide (T_8.out.onlyU hO9 (.inl (by omega)) (by omega))
      clear T_8
      have V_9 := hide (V_8.out.keepO hO9 (.inl (by omega)) (by omega))
      clear V_8
      have G_9 := hide (G_8.out.keepO hO9 (.inr (by omega)) (by omega))
      clear G_8
      go_wp2_with fail
      refine (eqMessageS_any (ucR S R H).f (ucR S R H).m (ucR S R H).g (ucR S R H).f (ucR S R H).m (ucR S R H).g (ucR S R H).n (ucR S R H).n _ _ _ _ _ _ _ G_9.out.sl V_9.out.sl (by omega) (by omega) (by omega) (by omega)).mono ?_
      rintro e w10 ⟨rfl, hb10⟩
      have hz10 := hb10.size
      (try simp at hz10)
      have hb010 : Below w.heap.size w w10 := hb09.trans (hb10.mono (by omega))
      have T_10 := hide (T_9.out.below hb10 (by omega))
      clear T_9
      have V_10 := hide (V_9.out.below hb10 (by omega))
      clear V_9
      have G_10 := hide (G_9.out.below hb10 (by omega))
      clear G_9
      rw [hNe.out]
      go_wp2_with fail
      refine (markMessageS_any 1 (ucR S R H).n (w4.heap.size + 1) w5.heap.size 0 _ (fun _ => .bool false) _ (G_10.out.l _) (by omega) (by omega) (by omega) (by omega)).mono ?_
      rintro e w11 ⟨rfl, om, hO11⟩
      have hz11 := hO11.size
      have hb011 : Below w.heap.size w w11 := hb010.trans (hO11.below (by omega) (by omega))
      clear G_10
      have T_11 := hide (T_10.out.onlyU hO11 (.inl (by omega)) (by omega))
      clear T_10
      have V_11 := hide (V_10.out.keepO hO11 (.inl (by omega)) (by omega))
      clear V_10
      have G_11 := hide om
      clear om
      go_wp2_with fail
      refine (heldMessageS_same 1 (ucR S R H).n (w4.heap.size + 1) w5.heap.size _ _ G_11.out (by omega) (by omega) (by omega) (by omega)).mono ?_
      rintro e w12 ⟨rfl, hb12⟩
      have hz12 := hb12.size
      (try simp at hz12)
      have hb012 : Below w.heap.size w w12 := hb011.trans (hb12.mono (by omega))
      have T_12 := hide (T_11.out.below hb12 (by omega))
      clear T_11
      have V_12 := hide (V_11.out.below hb12 (by omega))
      clear V_11
      have G_12 := hide (G_11.out.below hb12 (by omega))
      clear G_11
      obtain ⟨x0, x1, x2⟩ := T_12.out
      go_wp2_with fail
      clear x0 x1 x2
      refine (toChannel_any S R H 0 w.heap.size _ _ _ _ (hS.below (B := w.heap.size) hb012 (Nat.le_refl _)) (hR.below (B := w.heap.size) hb012 (Nat.le_refl _)) (hH.below (B := w.heap.size) hb012 (Nat.le_refl _)) (by omega) fS fR fH).mono ?_
      rintro e w13 ⟨uS, uR, uH, rfl, o2S, o2R, o2H, hb13⟩
      have hz13 := hb13.size
      (try simp at hz13)
      have hb013 : Below w.heap.size w w13 := hb012.trans (hb13.mono (by omega))
      have T_13 := hide (T_12.out.below hb13 (by omega))
      clear T_12
      have V_13 := hide (V_12.out.below hb13 (by omega))
      clear V_12
      have G_13 := hide (G_12.out.below hb13 (by omega))
      clear G_12
      go_wp2_with fail
      refine (Unconfirmed_impl S R H w12.heap.size w13.heap.size _ _ _ _ o2S.sl o2R.sl o2H.sl (Nat.le_refl _) fS fR fH).mono ?_
      rintro e w14 ⟨v14, rfl, o14, hb14⟩
      have hz14 := hb14.size
      (try simp at hz14)
      have hb014 : Below w.heap.size w w14 := hb013.trans (hb14.mono (by omega))
      have T_14 := hide (T_13.out.below hb14 (by omega))
      clear T_13
      have V_14 := hide (V_13.out.below hb14 (by omega))
      clear V_13
      have G_14 := hide (G_13.out.below hb14 (by omega))
      clear G_13
      have K_14 := hide o14
      clear o14 o2S o2R o2H
      obtain ⟨A14, c14, rfl, _, _⟩ := id K_14.out.sl.open_
      go_wp2_with fail
      refine (eqMessageS_any (ucR S R H).f (ucR S R H).m (ucR S R H).g (ucR S R H).f (ucR S R H).m (ucR S R H).g (ucR S R H).n (ucR S R H).n _ _ _ _ _ _ _ K_14.out.sl V_14.out.sl (by omega) (by omega) (by omega) (by omega)).mono ?_
      rintro e w15 ⟨rfl, hb15⟩
      have hz15 := hb15.size
      (try simp at hz15)
      have hb015 : Below w.heap.size w w15 := hb014.trans (hb15.mono (by omega))
      have T_15 := hide (T_14.out.below hb15 (by omega))
      clear T_14
      have V_15 := hide (V_14.out.below hb15 (by omega))
      clear V_14
      have G_15 := hide (G_14.out.below hb15 (by omega))
      clear G_14
      have K_15 := hide (K_14.out.below hb15 (by omega))
      clear K_14
      rw [hNe.out]
      go_wp2_with fail
      refine (heldMessageS_same 1 (ucR S R H).n (w4.heap.size + 1) w5.heap.size _ _ G_15.out (by omega) (by omega) (by omega) (by omega)).mono ?_
      rintro e w16 ⟨rfl, hb16⟩
      have hz16 := hb16.size
      (try simp at hz16)
      have hb016 : Below w.heap.size w w16 := hb015.trans (hb16.mono (by omega))
      have T_16 := hide (T_15.out.below hb16 (by omega))
      clear T_15
      have V_16 := hide (V_15.out.below hb16 (by omega))
      clear V_15
      have G_16 := hide (G_15.out.below hb16 (by omega))
      clear G_15
      have K_16 := hide (K_15.out.below hb16 (by omega))
      clear K_15
      go_wp2_with fail
      go_ret
      exact ⟨rfl, hb016⟩

set_option maxRecDepth 100000 in
theorem FnExactUnconfirmed_lifted (os : Os) (started : os.Started) (H : Type) (enc : TypeId × Value → H) :
    ReturnsInHanded {} Try.checked os 3 .any (Rows.fnExactUnconfirmedSpec.pre6 enc Try.prog Try.f3 Rows.fnExactUnconfirmedRow.domain false) (Rows.fnExactUnconfirmedSpec.post enc Try.prog Try.f3 false true false false) := by
  refine returnsInHanded_of_change_sized (C := Try.checked) Try.own started (by kernel_rfl) Try.func3
    (ChangeSpec.witness6 (enc := enc) (C := Try.checked) false ⟨#[], #[.agg #[.slice none 0 0, .slice none 0 0, .slice none 0 0]], []⟩ 8 (by kernel_rfl) (by kernel_rfl) (by kernel_rfl) (by kernel_rfl)) ?_
  intro W base args ds gs before hval0 hW _ hsz _
  have hval : ∀ (j : Nat) t v, Try.f3.params[j]? = some t → args[j]? = some v → Value.okWide Try.prog W .any base t v := hval0
  have hW' := hW
  obtain ⟨p, q, hA0, hV, rfl, hfz, hnd⟩ := hW
  have hA : DataW.TrodAll enc Try.prog W 0 (fun _ => true) true Try.f3.params.toList args.toList ds p := hA0
  rw [Try.params3] at hA hval
  obtain ⟨v0, vs0, d0, ds0, p0, q0, hargs, rfl, rfl, h0, r0⟩ := trodAll_cons hA
  obtain ⟨rfl, rfl, rfl⟩ := trodAll_nil r0
  obtain rfl : args = #[v0] := by cases args; simp_all
  obtain ⟨rfl, rfl⟩ := trodVars_none hV
  have hend : ∀ W', Below W.heap.size W W' → Rows.fnExactUnconfirmedSpec.post enc Try.prog Try.f3 false true false false W #[v0] (.bool true) W' := fun W' hb =>
    law_post (T := 4) Try.laidOut rfl (by kernel_rfl) rfl Try.underlying4 hW' rfl hb
  clear hW' hA0 hval0
  obtain ⟨S, R, H, vS, vR, vH, rfl, hA0⟩ := openChannel (hval 0 _ v0 rfl rfl) h0
  refine (FnExactUnconfirmed_walk S R H vS vR vH W hA0).mono fun e W' ⟨he, hb⟩ => ?_
  subst he
  exact ⟨_, rfl, hend W' hb⟩
/-- The statement. -/
theorem FnExactUnconfirmed_holds : Rows.FnExactUnconfirmedSaid :=
  OpenClaim.holds_of_wide 3 Try.f3 rfl rfl rfl rfl rfl rfl rfl ⟨rfl, rfl, rfl, rfl, rfl⟩ rfl rfl rfl rfl rfl (by kernel_rfl) Try.func3 (show joinedFacts Try.prog 3 Try.f3 Rows.fnExactUnconfirmedSpec Rows.fnExactUnconfirmedRow = true from by unfold joinedFacts; rw [Try.heard, Try.enters, Try.lifts, Try.laidOut, Try.rowed, Try.made]; kernel_rfl)
    (of_decide_eq_true (by kernel_rfl)) (by unfold Func.isWrapper; first | (rw [if_pos (by decide +kernel)]; kernel_rfl) | (rw [if_neg (by decide +kernel)]; exact ⟨rfl, rfl⟩))
    (fun os started H enc _ => FnExactUnconfirmed_lifted os started H enc)
#print axioms FnExactUnconfirmed_holds

end Go.Proofs.Ytkikjneamjmdlaa
