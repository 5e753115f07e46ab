/-
  FnExactEnterTeam: the law returns true at every input. No condition.
-/
import Derived.Test.YtpakjmiallhgnaaOBoard
import Derived.Test.YtpakjmiallhgnaaMTeam
import Derived.Test.YtpakjmiallhgnaaWOwn
import Derived.Test.YtpakjmiallhgnaaWEnter3
import Derived.Test.YtpakjmiallhgnaaFrame
namespace Go.Proofs.Ytpakjmiallhgnaa
set_option linter.unusedVariables false
set_option linter.unusedSimpArgs false
open Go.ChangeShapes Go.WideShapes Go.ChangeAt Go.RowKit Go.Joins Go.Deep

theorem Own.only {w w' : World} {lo hi lo' hi' E sz n k : Nat} {v : Value} {c : Nat → Nat → Value} (h : Own w lo' hi' E sz v n k c) (hO : Only lo hi w w') (hd : hi' ≤ lo ∨ hi ≤ lo') (hs : hi' ≤ w.heap.size) : Own w' lo' hi' E sz v n k c :=
  h.keep fun b h1 h2 => hO.block b (by omega) (by omega)
theorem Box4.only {w w' : World} {b lo hi : Nat} {x y z u : Value} (h : Box4 w b x y z u) (hO : Only lo hi w w') (hd : b < lo ∨ hi ≤ b) (hs : b < w.heap.size) : Box4 w' b x y z u := by
  have e : w'.heap[b]? = w.heap[b]? := hO.block b hs hd
  exact ⟨(World.cell?_of_block (a := ⟨b, 0, none⟩) e).trans h.1, (World.cell?_of_block (a := ⟨b, 1, none⟩) e).trans h.2.1, (World.cell?_of_block (a := ⟨b, 2, none⟩) e).trans h.2.2.1, (World.cell?_of_block (a := ⟨b, 3, none⟩) e).trans h.2.2.2⟩
set_option maxRecDepth 100000 in
set_option maxHeartbeats 3200000 in
theorem FnExactEnterTeam_walk (A : Option Addr) (n cap : Nat) (T : Nat → Tm) (X : Tm) (vx : Value) (w : World) (hS : SlT w 0 w.heap.size (.slice A n cap) n T) (hsm : tsome T n) (hX : TmIn w X vx) :
    Calls Try.prog 8 #[.slice A n cap, .agg #[.string X.s, .int .i64 X.v, .int .i64 X.y, vx]] w fun e w' => e = .returned (.bool true) ∧ Below w.heap.size w w' := by
  obtain ⟨hxs, hxm⟩ := hX
  obtain ⟨Ax, cx, rfl, hcx, _⟩ := hxs.open_
  have hbx : Box4 (w.alloc (.cells #[.string X.s, .int .i64 X.v, .int .i64 X.y, .slice Ax X.n cx] 63)) w.heap.size (.string X.s) (.int .i64 X.v) (.int .i64 X.y) (.slice Ax X.n cx) := Box4.new _ _ _ _ _ _
  cases hd : decide (szTS 1048576 T n < 0) with
  | true =>
    go_enter Try.func8, Try.ntmps8
    go_wp2_with fail
    refine (szTeamS_any T n 1048576 0 w.heap.size _ _ (hS.below (B := w.heap.size) (by repeat (first | (with_reducible exact Below.refl _ _) | (with_reducible refine below_ov ?_ ?_) | (with_reducible refine Below.setCell ?_ ?_ _) | (with_reducible refine Below.alloc ?_ ?_ _) | (with_reducible refine Below.drew ?_) | (with_reducible refine below_drewN ?_ _) | (refine Below.trans ?_ (Below.mono ‹Below _ _ _› (by first | omega | (simp; done) | (simp; omega)))) | exact Below.refl _ _ | omega | (focus (simp; done)) | (focus (simp; omega)))) (Nat.le_refl _)) (by simp) (by omega) (by omega) hsm).mono ?_
    rintro e w1 ⟨rfl, hb1⟩
    have hz1 := hb1.size
    (try (simp at hz1))
    go_wp2_with fail
    go_ret
    exact ⟨rfl, (by repeat (first | (with_reducible exact Below.refl _ _) | (with_reducible refine below_ov ?_ ?_) | (with_reducible refine Below.setCell ?_ ?_ _) | (with_reducible refine Below.alloc ?_ ?_ _) | (with_reducible refine Below.drew ?_) | (with_reducible refine below_drewN ?_ _) | (refine Below.trans ?_ (Below.mono ‹Below _ _ _› (by first | omega | (simp; done) | (simp; omega)))) | exact Below.refl _ _ | omega | (focus (simp; done)) | (focus (simp; omega))))⟩
  | false =>
    have hd0 := Int.not_lt.1 (of_decide_eq_false hd)
    have hle : szTS 1048576 T n ≤ 1048576 := by
      unfold szTS
      split
      · omega
      · have := (szTK_le (left := 1048576 - n) (T := T) (by omega) n).2
        omega
    have hf := szTS_fits hsm hd0
    have hn := hf.1
    cases hd2 : decide (szTF (szTS 1048576 T n) X < 0) with
    | true =>
      go_enter Try.func8, Try.ntmps8
      go_wp2_with fail
      refine (szTeamS_any T n 1048576 0 w.heap.size _ _ (hS.below (B := w.heap.size) (by repeat (first | (with_reducible exact Below.refl _ _) | (with_reducible refine below_ov ?_ ?_) | (with_reducible refine Below.setCell ?_ ?_ _) | (with_reducible refine Below.alloc ?_ ?_ _) | (with_reducible refine Below.drew ?_) | (with_reducible refine below_drewN ?_ _) | (refine Below.trans ?_ (Below.mono ‹Below _ _ _› (by first | omega | (simp; done) | (simp; omega)))) | exact Below.refl _ _ | omega | (focus (simp; done)) | (focus (simp; omega)))) (Nat.le_refl _)) (by simp) (by omega) (by omega) hsm).mono ?_
      rintro e w1 ⟨rfl, hb1⟩
      have hz1 := hb1.size
      (try (simp at hz1))
      have b1 := hbx.below hb1 (by simp)
      obtain ⟨x0, x1, x2, x3⟩ := b1
      have hb01 : Below w.heap.size w w1 := ((Below.refl _ _).alloc (Nat.le_refl _) _).trans (hb1.mono (by simp))
      go_wp2_with fail
      refine (szTeam_any X (szTS 1048576 T n) 0 w.heap.size _ _ (hxs.below hb01 (Nat.le_refl _)) hd0 hle hxm).mono ?_
      rintro e w2 ⟨rfl, hb2⟩
      have hz2 := hb2.size
      go_wp2_with fail
      go_ret
      exact ⟨rfl, hb01.trans (hb2.mono (by omega))⟩
    | false =>
      have hfx : X.fits := ⟨hxm.1, by
        have h1 := (szTF_n (T := X) (Int.not_lt.1 (of_decide_eq_false hd2))).2
        omega⟩
      obtain ⟨N, hN⟩ : ∃ N : Nat, N = etN T n X := ⟨_, rfl⟩
      obtain ⟨f, hfq⟩ : ∃ f : Nat → Tm, f = etT T n X := ⟨_, rfl⟩
      have hNn : N ≤ 1048576 := by rw [hN]; exact etN_le hf
      have hfit : tfits f N := by rw [hN, hfq]; exact etT_fits hf hfx
      have HI := hide hfit
      clear hfit
      have RS : ∀ (lo hi lo' hi' : Nat) (v vx : Value) (W : World), SlT W lo hi v n T → hi ≤ W.heap.size → Sl W lo' hi' 2 vx X.n (iiC X.m X.b) → hi' ≤ W.heap.size → Calls Try.prog 44 #[v, .agg #[.string X.s, .int .i64 X.v, .int .i64 X.y, vx]] W fun e w' => ∃ v', e = .returned (.tuple #[v', .bool (etOk T n X)]) ∧ OwnT w' W.heap.size w'.heap.size v' N f ∧ Below W.heap.size W w' := by
        intro lo hi lo' hi' v vx W h1 h2 h3 h4
        rw [hN, hfq]
        exact EnterTeam_spec T n X lo hi lo' hi' v vx W h1 h2 hf h3 h4 hfx
      have RI : ∀ (lo hi lo' hi' : Nat) (v vx : Value) (W : World), SlT W lo hi v n T → hi ≤ W.heap.size → Sl W lo' hi' 2 vx X.n (iiC X.m X.b) → hi' ≤ W.heap.size → Calls Try.prog 46 #[v, .agg #[.string X.s, .int .i64 X.v, .int .i64 X.y, vx]] W fun e w' => ∃ v', e = .returned (.tuple #[v', .bool (etOk T n X)]) ∧ OwnT w' W.heap.size w'.heap.size v' N f ∧ Below W.heap.size W w' := by
        intro lo hi lo' hi' v vx W h1 h2 h3 h4
        rw [hN, hfq]
        exact EnterTeam_impl T n X lo hi lo' hi' v vx W h1 h2 hf h3 h4 hfx
      have HRS := hide RS
      have HRI := hide RI
      have HF := hide hf
      clear RS RI hN hfq
      have hm8 := mkQ_bd (q := 1) (T := T) (fun i hi => (HF.out.2 i hi).2) n (Nat.le_refl _)
      have hX2 := hfx.2
      have d9 : decide (mkQ 1 T n + (X.n : Int) * 2 < 0) = false := decide_eq_false (by omega)
      have hm9 := mkQ_bd (q := 1) (T := f) (fun i hi => (HI.out.2 i hi).2) N (Nat.le_refl _)
      have d9' : decide (mkQ 1 f N < 0) = false := decide_eq_false (by omega)
      clear hf
      go_enter Try.func8, Try.ntmps8
      go_wp2_with fail
      refine (szTeamS_any T n 1048576 0 w.heap.size _ _ (hS.below (B := w.heap.size) (by repeat (first | (with_reducible exact Below.refl _ _) | (with_reducible refine below_ov ?_ ?_) | (with_reducible refine Below.setCell ?_ ?_ _) | (with_reducible refine Below.alloc ?_ ?_ _) | (with_reducible refine Below.drew ?_) | (with_reducible refine below_drewN ?_ _) | (refine Below.trans ?_ (Below.mono ‹Below _ _ _› (by first | omega | (simp; done) | (simp; omega)))) | exact Below.refl _ _ | omega | (focus (simp; done)) | (focus (simp; omega)))) (Nat.le_refl _)) (by simp) (by omega) (by omega) hsm).mono ?_
      rintro e w1 ⟨rfl, hb1⟩
      have hz1 := hb1.size
      (try (simp at hz1))
      have b1 := hbx.below hb1 (by simp)
      have b1' := b1
      obtain ⟨x0, x1, x2, x3⟩ := b1
      have hb01 : Below w.heap.size w w1 := ((Below.refl _ _).alloc (Nat.le_refl _) _).trans (hb1.mono (by simp))
      go_wp2_with fail
      refine (szTeam_any X (szTS 1048576 T n) 0 w.heap.size _ _ (hxs.below hb01 (Nat.le_refl _)) hd0 hle hxm).mono ?_
      rintro e w2 ⟨rfl, hb2⟩
      have hz2 := hb2.size
      have hb02 := hb01.trans (hb2.mono (by omega))
      have hbw2 := hb2
      have b2 := hide (b1'.below hb2 (by omega))
      clear b1' x0 x1 x2 x3
      go_wp2_with fail
      have hzd2 : w2.drew.heap.size = w2.heap.size := rfl
      have HB2 : Hid (∀ w', Below w2.heap.size w2.drew w' → Box4 w' w.heap.size (.string X.s) (.int .i64 X.v) (.int .i64 X.y) (.slice Ax X.n cx)) := fun w' hw' => (show Box4 w2.drew w.heap.size _ _ _ _ from b2.out).below hw' (by omega)
      refine wp_region_mix [(0, true), (2, true), (1, false), (3, false), (4, false), (5, true), (6, true), (7, true), (8, true), (9, true)] (fun w' => Below w2.heap.size w2.drew w') (by kernel_rfl) (by kernel_rfl) (by kernel_rfl) (by kernel_rfl) (Below.refl _ _) ?_
      refine mix_look _ _ rfl rfl (fun w' _ => BigFrame.run_move _ rfl w') ?_
      go_simp
      refine mix_look _ (.agg #[.string X.s, .int .i64 X.v, .int .i64 X.y, .slice Ax X.n cx]) rfl rfl (fun w' hw' => (by obtain ⟨a0, a1, a2, a3⟩ := HB2.out w' hw'; go_simp)) ?_
      go_simp
      refine mix_call _ 12 #[.slice A n cap] rfl rfl (by go_simp) ?_
      refine (toTeamS_any T n 0 w.heap.size _ _ (hS.below (B := w.heap.size) (Below.drew hb02) (Nat.le_refl _)) (by omega) HF.out).mono ?_
      rintro e w3 ⟨v3, rfl, ho3, hb3⟩
      have hz3 := hb3.size
      rw [hzd2] at hz3 hb3 ho3
      have hb03 := (Below.drew hb02).trans (hb3.mono (by omega))
      refine ⟨_, rfl, hb3, ?_⟩
      obtain ⟨A3, c3, rfl, _⟩ := ho3.open_
      go_simp
      refine mix_call _ 45 #[.agg #[.string X.s, .int .i64 X.v, .int .i64 X.y, .slice Ax X.n cx]] rfl rfl (by go_simp) ?_
      refine (toTeam_any X 0 w.heap.size _ _ (hxs.below hb03 (Nat.le_refl _)) (by omega) hfx).mono ?_
      rintro e w4 ⟨u4, rfl, ho4, hb4⟩
      have hz4 := hb4.size
      have hb04 := hb03.trans (hb4.mono (by omega))
      refine ⟨_, rfl, hb3.trans (hb4.mono hz3), ?_⟩
      obtain ⟨A4, c4, rfl, _, _⟩ := ho4.sl.open_
      go_simp
      refine mix_call _ 44 #[.slice A3 n c3, .agg #[.string X.s, .int .i64 X.v, .int .i64 X.y, .slice A4 X.n c4]] rfl rfl (by go_simp) ?_
      refine (HRS.out _ _ _ _ _ _ _ (ho3.below hb4 (Nat.le_refl _)) hz4 ho4.sl (Nat.le_refl _)).mono ?_
      rintro e w5 ⟨v5, rfl, ho5, hb5⟩
      have hz5 := hb5.size
      have hb05 := hb04.trans (hb5.mono (by omega))
      have hb25 := (hb3.trans (hb4.mono hz3)).trans (hb5.mono (by omega))
      refine ⟨_, rfl, hb25, ?_⟩
      obtain ⟨A5, c5, rfl, _⟩ := ho5.sl.open_
      go_simp
      refine mix_look _ _ rfl rfl (fun w' _ => BigFrame.run_move _ rfl w') ?_
      go_simp
      refine mix_look _ (.slice A5 N c5) rfl rfl (fun w' _ => (by go_simp)) ?_
      go_simp
      refine mix_look _ (.bool (etOk T n X)) rfl rfl (fun w' _ => (by go_simp)) ?_
      go_simp
      refine mix_look _ _ rfl rfl (fun w' _ => BigFrame.run_assign _ rfl w') ?_
      go_simp
      refine mix_look _ _ rfl rfl (fun w' _ => BigFrame.run_assign _ rfl w') ?_
      go_simp
      refine wpMix_nil ?_
      have T3_5 := hide (HB2.out w5 hb25)
      have W0_5 := hide ho5
      clear HB2 b2 ho3 ho4 ho5
      go_wp2_with fail
      refine (toTeamS_own T n 0 w.heap.size _ _ (hS.below (B := w.heap.size) hb05 (Nat.le_refl _)) (by omega) HF.out).mono ?_
      rintro e w6 ⟨v6, rfl, ho6, hb6⟩
      have hz6 := hb6.size
      have hb06 := hb05.trans (hb6.mono (by omega))
      obtain ⟨A6, c6, rfl, _⟩ := ho6.sl.open_
      have T3_6 := hide (T3_5.out.below hb6 (by omega))
      clear T3_5
      have W0_6 := hide (W0_5.out.below hb6 (by omega))
      clear W0_5
      have X0_6 := hide ho6
      clear ho6
      obtain ⟨x0, x1, x2, x3⟩ := T3_6.out
      go_wp2_with fail
      refine (toTeam_big X 0 w.heap.size _ _ (hxs.below hb06 (Nat.le_refl _)) (by omega) hfx).mono ?_
      rintro e w7 ⟨u7, rfl, ho7, hg7, hb7⟩
      have hz7 := hb7.size
      have hb07 := hb06.trans (hb7.mono (by omega))
      obtain ⟨A7, c7, rfl, _, _⟩ := ho7.sl.open_
      clear x0 x1 x2 x3
      have T3_7 := hide (T3_6.out.below hb7 (by omega))
      clear T3_6
      have W0_7 := hide (W0_6.out.below hb7 (by omega))
      clear W0_6
      have X0_7 := hide (X0_6.out.below hb7 (by omega))
      clear X0_6
      have X1_7 := hide ho7
      clear ho7
      obtain ⟨W7, hW7⟩ : ∃ W7, W7 = w7.alloc (.cells #[.string X.s, .int .i64 X.v, .int .i64 X.y, .slice A7 X.n c7] 40) := ⟨_, rfl⟩
      have hWz : W7.heap.size = w7.heap.size + 1 := by rw [hW7]; simp
      have hbW : Below w7.heap.size w7 W7 := by rw [hW7]; exact (Below.refl _ _).alloc (Nat.le_refl _) _
      have hT9 : Box4 W7 w7.heap.size (.string X.s) (.int .i64 X.v) (.int .i64 X.y) (.slice A7 X.n c7) := by rw [hW7]; exact Box4.new _ _ _ _ _ _
      have HW7 := hide hW7
      clear hW7
      have XA := hide (X0_7.out.below hbW (by omega))
      have XB := hide (X1_7.out.below hbW (by omega))
      go_wp2_with fail
      obtain rfl := HW7.out
      refine (HRI.out _ _ _ _ _ _ _ XA.out.sl (by omega) XB.out.sl (by omega)).mono ?_
      rintro e w8 ⟨v8, rfl, ho8, hb8'⟩
      have hz8 := hb8'.size
      have hb8 : Below w7.heap.size w7 w8 := hbW.trans (hb8'.mono (by omega))
      have hb08 := hb07.trans (hb8.mono (by omega))
      rw [hWz] at ho8 hz8
      obtain ⟨A8, c8, rfl, _⟩ := ho8.sl.open_
      have T9_8 := hide (hT9.below hb8' (by omega))
      clear XA XB hT9 hb8' hbW HW7
      have T3_8 := hide (T3_7.out.below hb8 (by omega))
      clear T3_7
      have W0_8 := hide (W0_7.out.below hb8 (by omega))
      clear W0_7
      have X0_8 := hide (X0_7.out.below hb8 (by omega))
      clear X0_7
      have X1_8 := hide (X1_7.out.below hb8 (by omega))
      clear X1_7
      have G0_8 := hide ho8
      clear ho8
      go_wp2_with fail
      refine (eqTeamS_same f N _ _ _ _ _ _ _ G0_8.out.sl W0_8.out.sl (by omega) (by omega) HI.out).mono ?_
      rintro e w9 ⟨rfl, hb9⟩
      have hz9 := hb9.size
      have hb09 := hb08.trans (hb9.mono (by omega))
      have T3_9 := hide (T3_8.out.below hb9 (by omega))
      clear T3_8
      have W0_9 := hide (W0_8.out.below hb9 (by omega))
      clear W0_8
      have X0_9 := hide (X0_8.out.below hb9 (by omega))
      clear X0_8
      have X1_9 := hide (X1_8.out.below hb9 (by omega))
      clear X1_8
      have T9_9 := hide (T9_8.out.below hb9 (by omega))
      clear T9_8
      have G0_9 := hide (G0_8.out.below hb9 (by omega))
      clear G0_8
      go_wp2_with fail
      refine (toTeamS_any T n 0 w.heap.size _ _ (hS.below (B := w.heap.size) hb09 (Nat.le_refl _)) (by omega) HF.out).mono ?_
      rintro e w10 ⟨v10, rfl, ho10, hb10⟩
      have hz10 := hb10.size
      have hb010 := hb09.trans (hb10.mono (by omega))
      obtain ⟨A10, c10, rfl, _⟩ := ho10.open_
      have T3_10 := hide (T3_9.out.below hb10 (by omega))
      clear T3_9
      have W0_10 := hide (W0_9.out.below hb10 (by omega))
      clear W0_9
      have X0_10 := hide (X0_9.out.below hb10 (by omega))
      clear X0_9
      have X1_10 := hide (X1_9.out.below hb10 (by omega))
      clear X1_9
      have T9_10 := hide (T9_9.out.below hb10 (by omega))
      clear T9_9
      have G0_10 := hide (G0_9.out.below hb10 (by omega))
      clear G0_9
      go_wp2_with fail
      refine (eqTeamS_same T n _ _ _ _ _ _ _ X0_10.out.sl ho10 (by omega) (by omega) HF.out).mono ?_
      rintro e w11 ⟨rfl, hb11⟩
      have hz11 := hb11.size
      have hb011 := hb010.trans (hb11.mono (by omega))
      have T3_11 := hide (T3_10.out.below hb11 (by omega))
      clear T3_10
      have W0_11 := hide (W0_10.out.below hb11 (by omega))
      clear W0_10
      have X0_11 := hide (X0_10.out.below hb11 (by omega))
      clear X0_10
      have X1_11 := hide (X1_10.out.below hb11 (by omega))
      clear X1_10
      have T9_11 := hide (T9_10.out.below hb11 (by omega))
      clear T9_10
      have G0_11 := hide (G0_10.out.below hb11 (by omega))
      clear G0_10
      clear ho10
      go_wp2_with fail
      have hzd : w11.drew.heap.size = w11.heap.size := rfl
      have HB3 : Hid (∀ w', Below w11.heap.size w11.drew w' → Box4 w' w.heap.size (.string X.s) (.int .i64 X.v) (.int .i64 X.y) (.slice Ax X.n cx)) := fun w' hw' => (show Box4 w11.drew w.heap.size _ _ _ _ from T3_11.out).below hw' (by omega)
      have HB9 : Hid (∀ w', Below w11.heap.size w11.drew w' → Box4 w' w7.heap.size (.string X.s) (.int .i64 X.v) (.int .i64 X.y) (.slice A7 X.n c7)) := fun w' hw' => (show Box4 w11.drew w7.heap.size _ _ _ _ from T9_11.out).below hw' (by omega)
      refine wp_region_mix [(0, true), (1, true), (2, false), (3, false), (4, true)] (fun w' => Below w11.heap.size w11.drew w') (by kernel_rfl) (by kernel_rfl) (by kernel_rfl) (by kernel_rfl) (Below.refl _ _) ?_
      refine mix_look _ (.agg #[.string X.s, .int .i64 X.v, .int .i64 X.y, .slice A7 X.n c7]) rfl rfl (fun w' hw' => (by obtain ⟨a0, a1, a2, a3⟩ := HB9.out w' hw'; go_simp)) ?_
      go_simp
      refine mix_look _ (.agg #[.string X.s, .int .i64 X.v, .int .i64 X.y, .slice Ax X.n cx]) rfl rfl (fun w' hw' => (by obtain ⟨a0, a1, a2, a3⟩ := HB3.out w' hw'; go_simp)) ?_
      go_simp
      refine mix_call _ 45 #[.agg #[.string X.s, .int .i64 X.v, .int .i64 X.y, .slice Ax X.n cx]] rfl rfl (by go_simp) ?_
      refine (toTeam_any X 0 w.heap.size _ _ (hxs.below (Below.drew hb011) (Nat.le_refl _)) (by omega) hfx).mono ?_
      rintro e w12 ⟨u12, rfl, ho12, hb12'⟩
      have hz12 := hb12'.size
      rw [hzd] at hz12 hb12' ho12
      refine ⟨_, rfl, hb12', ?_⟩
      obtain ⟨A12, c12, rfl, _, _⟩ := ho12.sl.open_
      have hb12 : Below w11.heap.size w11 w12 := (Below.drew (Below.refl _ _)).trans hb12'
      have hb012 := hb011.trans (hb12.mono (by omega))
      have T3_12 := hide (T3_11.out.below hb12 (by omega))
      clear T3_11
      have W0_12 := hide (W0_11.out.below hb12 (by omega))
      clear W0_11
      have X0_12 := hide (X0_11.out.below hb12 (by omega))
      clear X0_11
      have X1_12 := hide (X1_11.out.below hb12 (by omega))
      clear X1_11
      have T9_12 := hide (T9_11.out.below hb12 (by omega))
      clear T9_11
      have G0_12 := hide (G0_11.out.below hb12 (by omega))
      clear G0_11
      go_simp
      refine mix_call _ 47 #[.agg #[.string X.s, .int .i64 X.v, .int .i64 X.y, .slice A7 X.n c7], .agg #[.string X.s, .int .i64 X.v, .int .i64 X.y, .slice A12 X.n c12]] rfl rfl (by go_simp) ?_
      refine (eqTeam_same X _ _ _ _ _ _ _ X1_12.out.sl ho12.sl (by omega) (by omega) hfx).mono ?_
      rintro e w13 ⟨rfl, hb13⟩
      have hz13 := hb13.size
      have hb013 := hb012.trans (hb13.mono (by omega))
      refine ⟨_, rfl, hb12'.trans (hb13.mono (by omega)), ?_⟩
      have T3_13 := hide (T3_12.out.below hb13 (by omega))
      clear T3_12
      have W0_13 := hide (W0_12.out.below hb13 (by omega))
      clear W0_12
      have X0_13 := hide (X0_12.out.below hb13 (by omega))
      clear X0_12
      have X1_13 := hide (X1_12.out.below hb13 (by omega))
      clear X1_12
      have T9_13 := hide (T9_12.out.below hb13 (by omega))
      clear T9_12
      have G0_13 := hide (G0_12.out.below hb13 (by omega))
      clear G0_12
      clear ho12 HB3 HB9 hb12'
      go_simp
      refine mix_look _ (.bool false) rfl rfl (fun w' _ => (by go_simp)) ?_
      go_simp
      refine wpMix_nil ?_
      go_wp2_with fail
      refine (markTeamS_any 1 T n w5.heap.size w6.heap.size _ _ X0_13.out (by omega) HF.out.1 (fun i hi => (HF.out.2 i hi).2) (by omega) (by omega)).mono ?_
      rintro e w14 ⟨rfl, om14, hO14⟩
      have hz14 := hO14.size
      have hb014 : Below w.heap.size w w14 := hb013.trans (hO14.below (by omega) (by omega))
      clear om14 X0_13
      have T3_14 := hide (T3_13.out.only hO14 (by omega) (by omega))
      clear T3_13
      have W0_14 := hide (W0_13.out.only hO14 (by omega) (by omega))
      clear W0_13
      have X1_14 := hide (X1_13.out.only hO14 (by omega) (by omega))
      clear X1_13
      have T9_14 := hide (T9_13.out.only hO14 (by omega) (by omega))
      clear T9_13
      have G0_14 := hide (G0_13.out.only hO14 (by omega) (by omega))
      clear G0_13
      obtain ⟨y0, y1, y2, y3⟩ := T9_14.out
      go_wp2_with fail
      refine (markTeam_any (mkQ 1 T n) X w6.heap.size w7.heap.size _ _ (X1_14.out.lf (by omega)) (by omega) hX2 (by omega) (by omega)).mono ?_
      rintro e w15 ⟨rfl, hO15⟩
      have hz15 := hO15.size
      have hb015 : Below w.heap.size w w15 := hb014.trans (hO15.below (by omega) (by omega))
      clear X1_14 T9_14 y0 y1 y2 y3
      have T3_15 := hide (T3_14.out.only hO15 (by omega) (by omega))
      clear T3_14
      have W0_15 := hide (W0_14.out.only hO15 (by omega) (by omega))
      clear W0_14
      have G0_15 := hide (G0_14.out.only hO15 (by omega) (by omega))
      clear G0_14
      go_wp2_with fail
      refine (eqTeamS_same f N _ _ _ _ _ _ _ G0_15.out.sl W0_15.out.sl (by omega) (by omega) HI.out).mono ?_
      rintro e w16 ⟨rfl, hb16⟩
      have hz16 := hb16.size
      have hb016 := hb015.trans (hb16.mono (by omega))
      have T3_16 := hide (T3_15.out.below hb16 (by omega))
      clear T3_15
      have W0_16 := hide (W0_15.out.below hb16 (by omega))
      clear W0_15
      have G0_16 := hide (G0_15.out.below hb16 (by omega))
      clear G0_15
      go_wp2_with fail
      refine (markTeamS_any 1 f N (w7.heap.size + 1) w8.heap.size _ _ G0_16.out (by omega) HI.out.1 (fun i hi => (HI.out.2 i hi).2) (by omega) (by omega)).mono ?_
      rintro e w17 ⟨rfl, om17, hO17⟩
      have hz17 := hO17.size
      have hb017 : Below w.heap.size w w17 := hb016.trans (hO17.below (by omega) (by omega))
      clear G0_16
      have T3_17 := hide (T3_16.out.only hO17 (by omega) (by omega))
      clear T3_16
      have W0_17 := hide (W0_16.out.only hO17 (by omega) (by omega))
      clear W0_16
      have G0_17 := hide om17
      clear om17
      go_wp2_with fail
      refine (heldTeamS_same 1 f N (w7.heap.size + 1) w8.heap.size _ _ G0_17.out (by omega) HI.out.1 (fun i hi => (HI.out.2 i hi).2) (by omega) (by omega)).mono ?_
      rintro e w18 ⟨rfl, hb18⟩
      have hz18 := hb18.size
      have hb018 := hb017.trans (hb18.mono (by omega))
      have T3_18 := hide (T3_17.out.below hb18 (by omega))
      clear T3_17
      have W0_18 := hide (W0_17.out.below hb18 (by omega))
      clear W0_17
      have G0_18 := hide (G0_17.out.below hb18 (by omega))
      clear G0_17
      go_wp2_with fail
      have hzd8 : w18.drew.heap.size = w18.heap.size := rfl
      have HB3 : Hid (∀ w', Below w18.heap.size w18.drew w' → Box4 w' w.heap.size (.string X.s) (.int .i64 X.v) (.int .i64 X.y) (.slice Ax X.n cx)) := fun w' hw' => (show Box4 w18.drew w.heap.size _ _ _ _ from T3_18.out).below hw' (by omega)
      refine wp_region_mix [(0, true), (2, true), (1, false), (3, false), (4, false), (5, true), (6, true), (7, true), (8, true), (9, true)] (fun w' => Below w18.heap.size w18.drew w') (by kernel_rfl) (by kernel_rfl) (by kernel_rfl) (by kernel_rfl) (Below.refl _ _) ?_
      refine mix_look _ _ rfl rfl (fun w' _ => BigFrame.run_move _ rfl w') ?_
      go_simp
      refine mix_look _ (.agg #[.string X.s, .int .i64 X.v, .int .i64 X.y, .slice Ax X.n cx]) rfl rfl (fun w' hw' => (by obtain ⟨a0, a1, a2, a3⟩ := HB3.out w' hw'; go_simp)) ?_
      go_simp
      refine mix_call _ 12 #[.slice A n cap] rfl rfl (by go_simp) ?_
      refine (toTeamS_any T n 0 w.heap.size _ _ (hS.below (B := w.heap.size) (Below.drew hb018) (Nat.le_refl _)) (by omega) HF.out).mono ?_
      rintro e w19 ⟨v19, rfl, ho19, hb19'⟩
      have hz19 := hb19'.size
      rw [hzd8] at hz19 hb19' ho19
      have hb19 : Below w18.heap.size w18 w19 := (Below.drew (Below.refl _ _)).trans hb19'
      have hb019 := hb018.trans (hb19.mono (by omega))
      refine ⟨_, rfl, hb19', ?_⟩
      obtain ⟨A19, c19, rfl, _⟩ := ho19.open_
      go_simp
      refine mix_call _ 45 #[.agg #[.string X.s, .int .i64 X.v, .int .i64 X.y, .slice Ax X.n cx]] rfl rfl (by go_simp) ?_
      refine (toTeam_any X 0 w.heap.size _ _ (hxs.below hb019 (Nat.le_refl _)) (by omega) hfx).mono ?_
      rintro e w20 ⟨u20, rfl, ho20, hb20⟩
      have hz20 := hb20.size
      have hb020 := hb019.trans (hb20.mono (by omega))
      refine ⟨_, rfl, hb19'.trans (hb20.mono hz19), ?_⟩
      obtain ⟨A20, c20, rfl, _, _⟩ := ho20.sl.open_
      go_simp
      refine mix_call _ 46 #[.slice A19 n c19, .agg #[.string X.s, .int .i64 X.v, .int .i64 X.y, .slice A20 X.n c20]] rfl rfl (by go_simp) ?_
      refine (HRI.out _ _ _ _ _ _ _ (ho19.below hb20 (Nat.le_refl _)) hz20 ho20.sl (Nat.le_refl _)).mono ?_
      rintro e w21 ⟨v21, rfl, ho21, hb21⟩
      have hz21 := hb21.size
      have hb021 := hb020.trans (hb21.mono (by omega))
      refine ⟨_, rfl, (hb19'.trans (hb20.mono hz19)).trans (hb21.mono (by omega)), ?_⟩
      obtain ⟨A21, c21, rfl, _⟩ := ho21.sl.open_
      have T3_19 := hide (T3_18.out.below hb19 (by omega))
      clear T3_18
      have W0_19 := hide (W0_18.out.below hb19 (by omega))
      clear W0_18
      have G0_19 := hide (G0_18.out.below hb19 (by omega))
      clear G0_18
      have T3_20 := hide (T3_19.out.below hb20 (by omega))
      clear T3_19
      have W0_20 := hide (W0_19.out.below hb20 (by omega))
      clear W0_19
      have G0_20 := hide (G0_19.out.below hb20 (by omega))
      clear G0_19
      have T3_21 := hide (T3_20.out.below hb21 (by omega))
      clear T3_20
      have W0_21 := hide (W0_20.out.below hb21 (by omega))
      clear W0_20
      have G0_21 := hide (G0_20.out.below hb21 (by omega))
      clear G0_20
      go_simp
      refine mix_look _ _ rfl rfl (fun w' _ => BigFrame.run_move _ rfl w') ?_
      go_simp
      refine mix_look _ (.slice A21 N c21) rfl rfl (fun w' _ => (by go_simp)) ?_
      go_simp
      refine mix_look _ (.bool (etOk T n X)) rfl rfl (fun w' _ => (by go_simp)) ?_
      go_simp
      refine mix_look _ _ rfl rfl (fun w' _ => BigFrame.run_assign _ rfl w') ?_
      go_simp
      refine mix_look _ _ rfl rfl (fun w' _ => BigFrame.run_assign _ rfl w') ?_
      go_simp
      refine wpMix_nil ?_
      clear HB3
      go_wp2_with fail
      refine (eqTeamS_same f N _ _ _ _ _ _ _ ho21.sl W0_21.out.sl (by omega) (by omega) HI.out).mono ?_
      rintro e w22 ⟨rfl, hb22⟩
      have hz22 := hb22.size
      have hb022 := hb021.trans (hb22.mono (by omega))
      have T3_22 := hide (T3_21.out.below hb22 (by omega))
      clear T3_21
      have W0_22 := hide (W0_21.out.below hb22 (by omega))
      clear W0_21
      have G0_22 := hide (G0_21.out.below hb22 (by omega))
      clear G0_21
      go_wp2_with fail
      refine (heldTeamS_same 1 f N (w7.heap.size + 1) w8.heap.size _ _ G0_22.out (by omega) HI.out.1 (fun i hi => (HI.out.2 i hi).2) (by omega) (by omega)).mono ?_
      rintro e w23 ⟨rfl, hb23⟩
      go_wp2_with fail
      go_ret
      exact ⟨rfl, hb022.trans (hb23.mono (by omega))⟩
set_option maxRecDepth 100000 in
theorem FnExactEnterTeam_lifted (os : Os) (started : os.Started) (H : Type) (enc : TypeId × Value → H) :
    ReturnsInHanded {} Try.checked os 8 .any (Rows.fnExactEnterTeamSpec.pre6 enc Try.prog Try.f8 Rows.fnExactEnterTeamRow.domain false) (Rows.fnExactEnterTeamSpec.post enc Try.prog Try.f8 false true false false) := by
  refine returnsInHanded_of_change_sized (C := Try.checked) Try.own started (by kernel_rfl) Try.func8
    (ChangeSpec.witness6 (enc := enc) (C := Try.checked) false ⟨#[], #[.slice none 0 0, .agg #[.string ⟨#[]⟩, .int .i64 0, .int .i64 0, .slice none 0 0]], []⟩ 8 (by kernel_rfl) (by kernel_rfl) (by kernel_rfl) (by kernel_rfl)) ?_
  intro W base args ds gs before hval0 hW _ hsz _
  have hval : ∀ (j : Nat) t v, Try.f8.params[j]? = some t → args[j]? = some v → Value.okWide Try.prog W .any base t v := hval0
  have hW' := hW
  obtain ⟨p, q, hA0, hV, rfl, hfz, hnd⟩ := hW
  have hA : DataW.TrodAll enc Try.prog W 0 (fun _ => true) true Try.f8.params.toList args.toList ds p := hA0
  rw [Try.params8] at hA hval
  obtain ⟨v0, vs0, d0, ds0, p0, q0, hargs, rfl, rfl, h0, r0⟩ := trodAll_cons hA
  obtain ⟨v1, vs1, d1, ds1, p1, q1, rfl, rfl, rfl, h1, r1⟩ := trodAll_cons r0
  obtain ⟨rfl, rfl, rfl⟩ := trodAll_nil r1
  obtain rfl : args = #[v0, v1] := by cases args; simp_all
  obtain ⟨rfl, rfl⟩ := trodVars_none hV
  have hend : ∀ W', Below W.heap.size W W' → Rows.fnExactEnterTeamSpec.post enc Try.prog Try.f8 false true false false W #[v0, v1] (.bool true) W' := fun W' hb =>
    law_post (T := 4) Try.laidOut rfl (by kernel_rfl) rfl Try.underlying4 hW' rfl hb
  clear hW' hA0 hval0
  obtain ⟨A, n, cap, T, rfl, hk0, hm0, hA0⟩ := openBoard (hval 0 _ v0 rfl rfl) h0
  obtain ⟨X, vx, rfl, hA1⟩ := openTeam (hval 1 _ v1 rfl rfl) h1
  refine (FnExactEnterTeam_walk A n cap T X vx W hA0.1 hA0.2 hA1).mono fun e W' ⟨he, hb⟩ => ?_
  subst he
  exact ⟨_, rfl, hend W' hb⟩
/-- The statement. -/
theorem FnExactEnterTeam_holds : Rows.FnExactEnterTeamSaid :=
  OpenClaim.holds_of_wide 8 Try.f8 rfl rfl rfl rfl rfl rfl rfl ⟨rfl, rfl, rfl, rfl, rfl⟩ rfl rfl rfl rfl rfl (by kernel_rfl) Try.func8 (show joinedFacts Try.prog 8 Try.f8 Rows.fnExactEnterTeamSpec Rows.fnExactEnterTeamRow = true from by unfold joinedFacts; rw [Try.heard, Try.enters, Try.lifts, Try.laidOut, Try.rowed, Try.made]; kernel_rfl)
    (of_decide_eq_true (by kernel_rfl)) (by unfold Func.isWrapper; first | (rw [if_pos (by decide +kernel)]; kernel_rfl) | (rw [if_neg (by decide +kernel)]; exact ⟨rfl, rfl⟩))
    (fun os started H enc _ => FnExactEnterTeam_lifted os started H enc)
#print axioms FnExactEnterTeam_holds

end Go.Proofs.Ytpakjmiallhgnaa
