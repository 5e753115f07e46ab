/-
  FnExactTeamTurn: the law returns true at every input. No condition.
-/
import Derived.Test.YtkmbeemgejoncaaOCylinder
import Derived.Test.YtkmbeemgejoncaaOInt
import Derived.Test.YtkmbeemgejoncaaDCylinder
import Derived.Test.YtkmbeemgejoncaaDInt
import Derived.Test.YtkmbeemgejoncaaWTeam
namespace Go.Proofs.Ytkmbeemgejoncaa
set_option linter.unusedVariables false
set_option linter.unusedSimpArgs false
open Go.ChangeShapes Go.WideShapes Go.ChangeAt Go.RowKit Go.Joins Go.Deep

set_option maxRecDepth 100000 in
set_option maxHeartbeats 1600000 in
theorem FnExactTeamTurn_walk (A : Option Addr) (n cap : Nat) (v b : Nat → Int) (A' : Option Addr) (n' cap' : Nat) (r : Nat → Int) (way res : Int) (w : World) (hcap : n ≤ cap) (hmax : cap ≤ maxLen) (hA : SlA w 0 w.heap.size 2 A n (iiC v b)) (hcap' : n' ≤ cap') (hmax' : cap' ≤ maxLen) (hA' : SlA w 0 w.heap.size 1 A' n' (iC r)) :
    Calls Try.prog 13 #[.slice A n cap, .slice A' n' cap', .int .i64 way, .int .i64 res] w fun e w' => e = .returned (.bool true) ∧ Below w.heap.size w w' := by
  unfold maxLen at hmax hmax'
  have hS : Sl w 0 w.heap.size 2 (.slice A n cap) n (iiC v b) := hA.shut hcap
  have hS' : Sl w 0 w.heap.size 1 (.slice A' n' cap') n' (iC r) := hA'.shut hcap'
  clear hA hA'
  by_cases hn' : n' ≤ 1048576
  · have hd0 : decide ((n' : Int) > 1048576) = false := by simp; omega
    by_cases hn : n ≤ 1048576
    · have hd : decide (leftF 1048576 n < 0) = false := by unfold leftF; simp; split <;> omega
      have HQ := hide (iiL_self v b n)
      have HQ' := hide (iL_self r n')
      go_enter Try.func13, Try.ntmps13
      go_wp2_with (go_at_call 38; refine (szCylinderS_any _ _ _ _ _ (by omega) (by omega) (by omega)).mono ?_; rintro e w' ⟨rfl, rfl⟩)
      go_wp2_with fail
      refine (toCylinderS_any v b n _ _ _ _ hS (by omega) hn).mono ?_
      rintro e w1 ⟨v1, rfl, ho1, hb1⟩
      have hz1 := hb1.size
      go_wp2_with fail
      refine (toIntS_any r n' _ _ _ _ (hS'.below (B := w.heap.size) (by repeat (first | exact Below.refl _ _ | (refine Below.trans ?_ (Below.mono ‹Below _ _ _› (by first | omega | (simp; done) | (simp; omega)))) | (refine Below.alloc ?_ (by first | omega | (simp; done) | (simp; omega)) _) | (refine below_drewN ?_ _) | (refine Below.drew ?_) | (refine Below.setCell ?_ (by first | omega | (simp; done) | (simp; omega)) _))) (Nat.le_refl _)) (by omega) hn').mono ?_
      rintro e w2 ⟨v2, rfl, ho2, hb2⟩
      have hz2 := hb2.size
      go_wp2_with fail
      refine (TeamTurn_spec v b r way res n n' _ _ _ _ _ _ _ (ho1.below (B := w1.heap.size) (by repeat (first | exact Below.refl _ _ | (refine Below.trans ?_ (Below.mono ‹Below _ _ _› (by first | omega | (simp; done) | (simp; omega)))) | (refine Below.alloc ?_ (by first | omega | (simp; done) | (simp; omega)) _) | (refine below_drewN ?_ _) | (refine Below.drew ?_) | (refine Below.setCell ?_ (by first | omega | (simp; done) | (simp; omega)) _))) (Nat.le_refl _)).sl (ho2.below (B := w2.heap.size) (by repeat (first | exact Below.refl _ _ | (refine Below.trans ?_ (Below.mono ‹Below _ _ _› (by first | omega | (simp; done) | (simp; omega)))) | (refine Below.alloc ?_ (by first | omega | (simp; done) | (simp; omega)) _) | (refine below_drewN ?_ _) | (refine Below.drew ?_) | (refine Below.setCell ?_ (by first | omega | (simp; done) | (simp; omega)) _))) (Nat.le_refl _)).sl (by omega) (by omega)).mono ?_
      rintro e w3 ⟨rfl, hb3⟩
      have hz3 := hb3.size
      go_wp2_with fail
      refine (toCylinderS_any v b n _ _ _ _ (hS.below (B := w.heap.size) (by repeat (first | exact Below.refl _ _ | (refine Below.trans ?_ (Below.mono ‹Below _ _ _› (by first | omega | (simp; done) | (simp; omega)))) | (refine Below.alloc ?_ (by first | omega | (simp; done) | (simp; omega)) _) | (refine below_drewN ?_ _) | (refine Below.drew ?_) | (refine Below.setCell ?_ (by first | omega | (simp; done) | (simp; omega)) _))) (Nat.le_refl _)) (by omega) hn).mono ?_
      rintro e w4 ⟨v4, rfl, ho4, hb4⟩
      have hz4 := hb4.size
      go_wp2_with fail
      refine (toIntS_any r n' _ _ _ _ (hS'.below (B := w.heap.size) (by repeat (first | exact Below.refl _ _ | (refine Below.trans ?_ (Below.mono ‹Below _ _ _› (by first | omega | (simp; done) | (simp; omega)))) | (refine Below.alloc ?_ (by first | omega | (simp; done) | (simp; omega)) _) | (refine below_drewN ?_ _) | (refine Below.drew ?_) | (refine Below.setCell ?_ (by first | omega | (simp; done) | (simp; omega)) _))) (Nat.le_refl _)) (by omega) hn').mono ?_
      rintro e w5 ⟨v5, rfl, ho5, hb5⟩
      have hz5 := hb5.size
      go_wp2_with fail
      refine (TeamTurn_impl v b r way res n n' _ _ _ _ _ _ _ (ho4.below (B := w4.heap.size) (by repeat (first | exact Below.refl _ _ | (refine Below.trans ?_ (Below.mono ‹Below _ _ _› (by first | omega | (simp; done) | (simp; omega)))) | (refine Below.alloc ?_ (by first | omega | (simp; done) | (simp; omega)) _) | (refine below_drewN ?_ _) | (refine Below.drew ?_) | (refine Below.setCell ?_ (by first | omega | (simp; done) | (simp; omega)) _))) (Nat.le_refl _)).sl (ho5.below (B := w5.heap.size) (by repeat (first | exact Below.refl _ _ | (refine Below.trans ?_ (Below.mono ‹Below _ _ _› (by first | omega | (simp; done) | (simp; omega)))) | (refine Below.alloc ?_ (by first | omega | (simp; done) | (simp; omega)) _) | (refine below_drewN ?_ _) | (refine Below.drew ?_) | (refine Below.setCell ?_ (by first | omega | (simp; done) | (simp; omega)) _))) (Nat.le_refl _)).sl (by omega) (by omega)).mono ?_
      rintro e w6 ⟨rfl, hb6⟩
      have hz6 := hb6.size
      go_wp2_with fail
      refine (toCylinderS_any v b n _ _ _ _ (hS.below (B := w.heap.size) (by repeat (first | exact Below.refl _ _ | (refine Below.trans ?_ (Below.mono ‹Below _ _ _› (by first | omega | (simp; done) | (simp; omega)))) | (refine Below.alloc ?_ (by first | omega | (simp; done) | (simp; omega)) _) | (refine below_drewN ?_ _) | (refine Below.drew ?_) | (refine Below.setCell ?_ (by first | omega | (simp; done) | (simp; omega)) _))) (Nat.le_refl _)) (by omega) hn).mono ?_
      rintro e w7 ⟨v7, rfl, ho7, hb7⟩
      have hz7 := hb7.size
      go_wp2_with fail
      refine (eqCylinderS_any v b v b n n _ _ _ _ _ _ _ (ho4.below (B := w4.heap.size) (by repeat (first | exact Below.refl _ _ | (refine Below.trans ?_ (Below.mono ‹Below _ _ _› (by first | omega | (simp; done) | (simp; omega)))) | (refine Below.alloc ?_ (by first | omega | (simp; done) | (simp; omega)) _) | (refine below_drewN ?_ _) | (refine Below.drew ?_) | (refine Below.setCell ?_ (by first | omega | (simp; done) | (simp; omega)) _))) (Nat.le_refl _)).sl (ho7.below (B := w7.heap.size) (by repeat (first | exact Below.refl _ _ | (refine Below.trans ?_ (Below.mono ‹Below _ _ _› (by first | omega | (simp; done) | (simp; omega)))) | (refine Below.alloc ?_ (by first | omega | (simp; done) | (simp; omega)) _) | (refine below_drewN ?_ _) | (refine Below.drew ?_) | (refine Below.setCell ?_ (by first | omega | (simp; done) | (simp; omega)) _))) (Nat.le_refl _)).sl (by omega) (by omega) (by omega) (by omega)).mono ?_
      rintro e w8 ⟨rfl, hb8⟩
      have hz8 := hb8.size
      rw [HQ.out]
      go_wp2_with fail
      refine (toIntS_any r n' _ _ _ _ (hS'.below (B := w.heap.size) (by repeat (first | exact Below.refl _ _ | (refine Below.trans ?_ (Below.mono ‹Below _ _ _› (by first | omega | (simp; done) | (simp; omega)))) | (refine Below.alloc ?_ (by first | omega | (simp; done) | (simp; omega)) _) | (refine below_drewN ?_ _) | (refine Below.drew ?_) | (refine Below.setCell ?_ (by first | omega | (simp; done) | (simp; omega)) _))) (Nat.le_refl _)) (by omega) hn').mono ?_
      rintro e w9 ⟨v9, rfl, ho9, hb9⟩
      have hz9 := hb9.size
      go_wp2_with fail
      refine (eqIntS_any r r n' n' _ _ _ _ _ _ _ (ho5.below (B := w5.heap.size) (by repeat (first | exact Below.refl _ _ | (refine Below.trans ?_ (Below.mono ‹Below _ _ _› (by first | omega | (simp; done) | (simp; omega)))) | (refine Below.alloc ?_ (by first | omega | (simp; done) | (simp; omega)) _) | (refine below_drewN ?_ _) | (refine Below.drew ?_) | (refine Below.setCell ?_ (by first | omega | (simp; done) | (simp; omega)) _))) (Nat.le_refl _)).sl (ho9.below (B := w9.heap.size) (by repeat (first | exact Below.refl _ _ | (refine Below.trans ?_ (Below.mono ‹Below _ _ _› (by first | omega | (simp; done) | (simp; omega)))) | (refine Below.alloc ?_ (by first | omega | (simp; done) | (simp; omega)) _) | (refine below_drewN ?_ _) | (refine Below.drew ?_) | (refine Below.setCell ?_ (by first | omega | (simp; done) | (simp; omega)) _))) (Nat.le_refl _)).sl (by omega) (by omega) (by omega) (by omega)).mono ?_
      rintro e w10 ⟨rfl, hb10⟩
      have hz10 := hb10.size
      rw [HQ'.out]
      go_wp2_with fail
      go_ret
      exact ⟨rfl, (by repeat (first | exact Below.refl _ _ | (refine Below.trans ?_ (Below.mono ‹Below _ _ _› (by first | omega | (simp; done) | (simp; omega)))) | (refine Below.alloc ?_ (by first | omega | (simp; done) | (simp; omega)) _) | (refine below_drewN ?_ _) | (refine Below.drew ?_) | (refine Below.setCell ?_ (by first | omega | (simp; done) | (simp; omega)) _)))⟩
    · have hd : decide (leftF 1048576 n < 0) = true := by unfold leftF; simp; split <;> omega
      go_enter Try.func13, Try.ntmps13
      go_wp2_with (go_at_call 38; refine (szCylinderS_any _ _ _ _ _ (by omega) (by omega) (by omega)).mono ?_; rintro e w' ⟨rfl, rfl⟩)
      go_ret
      exact ⟨rfl, Below.refl _ _⟩
  · have hd0 : decide ((n' : Int) > 1048576) = true := by simp; omega
    go_enter Try.func13, Try.ntmps13
    go_wp2_with fail
    go_ret
    exact ⟨rfl, Below.refl _ _⟩

set_option maxRecDepth 100000 in
theorem FnExactTeamTurn_lifted (os : Os) (started : os.Started) (H : Type) (enc : TypeId × Value → H) :
    ReturnsInHanded {} Try.checked os 13 .any (Rows.fnExactTeamTurnSpec.pre6 enc Try.prog Try.f13 Rows.fnExactTeamTurnRow.domain false) (Rows.fnExactTeamTurnSpec.post enc Try.prog Try.f13 false true false false) := by
  refine returnsInHanded_of_change_sized (C := Try.checked) Try.own started (by kernel_rfl) Try.func13
    (ChangeSpec.witness6 (enc := enc) (C := Try.checked) false ⟨#[], #[.slice none 0 0, .slice none 0 0, .int .i64 0, .int .i64 0], []⟩ 8 (by kernel_rfl) (by kernel_rfl) (by kernel_rfl) (by kernel_rfl)) ?_
  intro W base args ds gs before hval0 hW _ hsz _
  have hval : ∀ (j : Nat) t v, Try.f13.params[j]? = some t → args[j]? = some v → Value.okWide Try.prog W .any base t v := hval0
  have hW' := hW
  obtain ⟨p, q, hA0, hV, rfl, hfz, hnd⟩ := hW
  have hA : DataW.TrodAll enc Try.prog W 0 (fun _ => true) true Try.f13.params.toList args.toList ds p := hA0
  rw [Try.params13] at hA hval
  obtain ⟨v0, vs0, d0, ds0, p0, q0, hargs, rfl, rfl, h0, r0⟩ := trodAll_cons hA
  obtain ⟨v1, vs1, d1, ds1, p1, q1, rfl, rfl, rfl, h1, r1⟩ := trodAll_cons r0
  obtain ⟨v2, vs2, d2, ds2, p2, q2, rfl, rfl, rfl, h2, r2⟩ := trodAll_cons r1
  obtain ⟨v3, vs3, d3, ds3, p3, q3, rfl, rfl, rfl, h3, r3⟩ := trodAll_cons r2
  obtain ⟨rfl, rfl, rfl⟩ := trodAll_nil r3
  obtain rfl : args = #[v0, v1, v2, v3] := by cases args; simp_all
  obtain ⟨rfl, rfl⟩ := trodVars_none hV
  have hend : ∀ W', Below W.heap.size W W' → Rows.fnExactTeamTurnSpec.post enc Try.prog Try.f13 false true false false W #[v0, v1, v2, v3] (.bool true) W' := fun W' hb =>
    law_post (T := 4) Try.laidOut rfl (by kernel_rfl) rfl Try.underlying4 hW' rfl hb
  clear hW' hA0 hval0
  obtain ⟨A, n, cap, v, b, rfl, hk0, hm0, hA0⟩ := openCylinder (hval 0 _ v0 rfl rfl) h0
  obtain ⟨A', n', cap', r, rfl, hk1, hm1, hA1⟩ := openInt (hval 1 _ v1 rfl rfl) h1
  obtain ⟨way, rfl, rfl, rfl, wf2⟩ := open_int Try.underlying3 (hval 2 _ v2 rfl rfl) h2
  obtain ⟨res, rfl, rfl, rfl, wf3⟩ := open_int Try.underlying3 (hval 3 _ v3 rfl rfl) h3
  refine (FnExactTeamTurn_walk A n cap v b A' n' cap' r way res W hk0 hm0 hA0 hk1 hm1 hA1).mono fun e W' ⟨he, hb⟩ => ?_
  subst he
  exact ⟨_, rfl, hend W' hb⟩
/-- The statement. -/
theorem FnExactTeamTurn_holds : Rows.FnExactTeamTurnSaid :=
  OpenClaim.holds_of_wide 13 Try.f13 rfl rfl rfl rfl rfl rfl rfl ⟨rfl, rfl, rfl, rfl, rfl⟩ rfl rfl rfl rfl rfl (by kernel_rfl) Try.func13 (by kernel_rfl)
    (of_decide_eq_true (by kernel_rfl)) (by unfold Func.isWrapper; first | (rw [if_pos (by decide +kernel)]; kernel_rfl) | (rw [if_neg (by decide +kernel)]; exact ⟨rfl, rfl⟩))
    (fun os started H enc _ => FnExactTeamTurn_lifted os started H enc)
#print axioms FnExactTeamTurn_holds

end Go.Proofs.Ytkmbeemgejoncaa
