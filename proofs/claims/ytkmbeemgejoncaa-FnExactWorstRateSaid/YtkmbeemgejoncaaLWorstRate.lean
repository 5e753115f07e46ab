/-
  FnExactWorstRate: the law returns true at every volume and list. No condition.
-/
import Derived.Test.YtkmbeemgejoncaaOCheck
import Derived.Test.YtkmbeemgejoncaaWChk2
import Derived.Test.YtkmbeemgejoncaaWRate
namespace Go.Proofs.Ytkmbeemgejoncaa
set_option linter.unusedVariables false
set_option linter.unusedSimpArgs false
open Go.ChangeShapes Go.WideShapes Go.ChangeAt Go.RowKit Go.Joins Go.Deep

set_option maxHeartbeats 800000 in
theorem FnExactWorstRate_walk (x : Int) (A : Option Addr) (n cap : Nat) (m b : Nat → Int) (w : World) (hcap : n ≤ cap) (hmax : cap ≤ maxLen) (hA : SlA w 0 w.heap.size 2 A n (iiC m b)) :
    Calls Try.prog 11 #[.int .i64 x, .slice A n cap] w fun e w' => e = .returned (.bool true) ∧ Below w.heap.size w w' := by
  unfold maxLen at hmax
  have hS : Sl w 0 w.heap.size 2 (.slice A n cap) n (iiC m b) := hA.shut hcap
  by_cases hn : n ≤ 1048576
  · have hd : decide (leftF 1048576 n < 0) = false := by unfold leftF; simp; split <;> omega
    have HQ := hide (iiL_self m b n)
    go_enter Try.func11, Try.ntmps11
    go_wp2_with (go_at_call 23; refine (szCheckS_any _ _ _ _ _ (by omega) (by omega) (by omega)).mono ?_; rintro e w' ⟨rfl, rfl⟩)
    go_wp2_with fail
    refine (toCheckS_any m b n _ _ _ _ hS (by omega) hn).mono ?_
    rintro e w1 ⟨v1, rfl, ho1, hb1⟩
    have hz1 := hb1.size
    go_wp2_with fail
    refine (WorstRate_spec x m b n _ _ _ _ ho1.sl (by omega) (by omega)).mono ?_
    rintro e w2 ⟨rfl, hb2⟩
    have hz2 := hb2.size
    go_wp2_with fail
    refine (toCheckS_any m b n _ _ _ _ (hS.below (B := w.heap.size) (by repeat (first | exact Below.refl _ _ | (refine Below.trans ?_ (Below.mono ‹Below _ _ _› (by first | omega | (simp; done) | (simp; omega)))) | (refine Below.alloc ?_ (by first | omega | (simp; done) | (simp; omega)) _) | (refine below_drewN ?_ _) | (refine Below.drew ?_) | (refine Below.setCell ?_ (by first | omega | (simp; done) | (simp; omega)) _))) (Nat.le_refl _)) (by omega) hn).mono ?_
    rintro e w3 ⟨v3, rfl, ho3, hb3⟩
    have hz3 := hb3.size
    go_wp2_with fail
    refine (WorstRate_impl x m b n _ _ _ _ ho3.sl (by omega) (by omega)).mono ?_
    rintro e w4 ⟨rfl, hb4⟩
    have hz4 := hb4.size
    go_wp2_with fail
    refine (toCheckS_any m b n _ _ _ _ (hS.below (B := w.heap.size) (by repeat (first | exact Below.refl _ _ | (refine Below.trans ?_ (Below.mono ‹Below _ _ _› (by first | omega | (simp; done) | (simp; omega)))) | (refine Below.alloc ?_ (by first | omega | (simp; done) | (simp; omega)) _) | (refine below_drewN ?_ _) | (refine Below.drew ?_) | (refine Below.setCell ?_ (by first | omega | (simp; done) | (simp; omega)) _))) (Nat.le_refl _)) (by omega) hn).mono ?_
    rintro e w5 ⟨v5, rfl, ho5, hb5⟩
    have hz5 := hb5.size
    go_wp2_with fail
    refine (eqCheckS_any m b m b n n _ _ _ _ _ _ _ (ho3.below (hb4.trans (hb5.mono (by omega))) (by omega)).sl ho5.sl (by omega) (by omega) (by omega) (by omega)).mono ?_
    rintro e w6 ⟨rfl, hb6⟩
    rw [HQ.out]
    have hz6 := hb6.size
    go_wp2_with fail
    go_ret
    exact ⟨rfl, (by repeat (first | exact Below.refl _ _ | (refine Below.trans ?_ (Below.mono ‹Below _ _ _› (by first | omega | (simp; done) | (simp; omega)))) | (refine Below.alloc ?_ (by first | omega | (simp; done) | (simp; omega)) _) | (refine below_drewN ?_ _) | (refine Below.drew ?_) | (refine Below.setCell ?_ (by first | omega | (simp; done) | (simp; omega)) _)))⟩
  · have hd : decide (leftF 1048576 n < 0) = true := by unfold leftF; simp; split <;> omega
    go_enter Try.func11, Try.ntmps11
    go_wp2_with (go_at_call 23; refine (szCheckS_any _ _ _ _ _ (by omega) (by omega) (by omega)).mono ?_; rintro e w' ⟨rfl, rfl⟩)
    go_ret
    exact ⟨rfl, Below.refl _ _⟩

set_option maxRecDepth 100000 in
theorem FnExactWorstRate_lifted (os : Os) (started : os.Started) (H : Type) (enc : TypeId × Value → H) :
    ReturnsInHanded {} Try.checked os 11 .any (Rows.fnExactWorstRateSpec.pre6 enc Try.prog Try.f11 Rows.fnExactWorstRateRow.domain false) (Rows.fnExactWorstRateSpec.post enc Try.prog Try.f11 false true false false) := by
  refine returnsInHanded_of_change_sized (C := Try.checked) Try.own started (by kernel_rfl) Try.func11
    (ChangeSpec.witness6 (enc := enc) (C := Try.checked) false ⟨#[], #[.int .i64 0, .slice none 0 0], []⟩ 8 (by kernel_rfl) (by kernel_rfl) (by kernel_rfl) (by kernel_rfl)) ?_
  intro W base args ds gs before hval0 hW _ hsz _
  have hval : ∀ (j : Nat) t v, Try.f11.params[j]? = some t → args[j]? = some v → Value.okWide Try.prog W .any base t v := hval0
  have hW' := hW
  obtain ⟨p, q, hA0, hV, rfl, hfz, hnd⟩ := hW
  have hA : DataW.TrodAll enc Try.prog W 0 (fun _ => true) true Try.f11.params.toList args.toList ds p := hA0
  rw [Try.params11] at hA hval
  obtain ⟨v0, vs0, d0, ds0, p0, q0, hargs, rfl, rfl, h0, r0⟩ := trodAll_cons hA
  obtain ⟨v1, vs1, d1, ds1, p1, q1, rfl, rfl, rfl, h1, r1⟩ := trodAll_cons r0
  obtain ⟨rfl, rfl, rfl⟩ := trodAll_nil r1
  obtain rfl : args = #[v0, v1] := by cases args; simp_all
  obtain ⟨rfl, rfl⟩ := trodVars_none hV
  have hend : ∀ W', Below W.heap.size W W' → Rows.fnExactWorstRateSpec.post enc Try.prog Try.f11 false true false false W #[v0, v1] (.bool true) W' := fun W' hb =>
    law_post (T := 4) Try.laidOut rfl (by kernel_rfl) rfl Try.underlying4 hW' rfl hb
  clear hW' hA0 hval0
  obtain ⟨x, rfl, rfl, rfl, wf0⟩ := open_int Try.underlying3 (hval 0 _ v0 rfl rfl) h0
  obtain ⟨A, n, cap, m, b, rfl, hk1, hm1, hA1⟩ := openCheck (hval 1 _ v1 rfl rfl) h1
  refine (FnExactWorstRate_walk x A n cap m b W hk1 hm1 hA1).mono fun e W' ⟨he, hb⟩ => ?_
  subst he
  exact ⟨_, rfl, hend W' hb⟩
/-- The statement. -/
theorem FnExactWorstRate_holds : Rows.FnExactWorstRateSaid :=
  OpenClaim.holds_of_wide 11 Try.f11 rfl rfl rfl rfl rfl rfl rfl ⟨rfl, rfl, rfl, rfl, rfl⟩ rfl rfl rfl rfl rfl (by kernel_rfl) Try.func11 (by kernel_rfl)
    (of_decide_eq_true (by kernel_rfl)) (by unfold Func.isWrapper; first | (rw [if_pos (by decide +kernel)]; kernel_rfl) | (rw [if_neg (by decide +kernel)]; exact ⟨rfl, rfl⟩))
    (fun os started H enc _ => FnExactWorstRate_lifted os started H enc)
#print axioms FnExactWorstRate_holds

end Go.Proofs.Ytkmbeemgejoncaa
