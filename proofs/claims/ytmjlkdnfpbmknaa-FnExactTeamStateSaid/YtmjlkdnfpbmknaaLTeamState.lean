/-
  FnExactTeamState: the law returns true at every team. No condition.
-/
import Derived.Test.YtmjlkdnfpbmknaaOTeam
import Derived.Test.YtmjlkdnfpbmknaaWTm4
import Derived.Test.YtmjlkdnfpbmknaaFrame
import Derived.Deep.RegionWith
namespace Go.Proofs.Ytmjlkdnfpbmknaa
set_option linter.unusedVariables false
set_option linter.unusedSimpArgs false
open Go.ChangeShapes Go.WideShapes Go.ChangeAt Go.RowKit Go.Joins Go.Deep

set_option maxRecDepth 100000 in
set_option maxHeartbeats 3200000 in
theorem FnExactTeamState_walk (T : Tm) (vc : Value) (k : Int) (w : World) (hA : TmIn w T vc) :
    Calls Try.prog 8 #[.agg #[.string T.s, .int .i64 T.v, .int .i64 T.y, vc], .int .i64 k] w fun e w' => e = .returned (.bool true) ∧ Below w.heap.size w w' := by
  obtain ⟨hS, sS⟩ := hA
  cases hd : decide (szTF 1048576 T < 0) with
  | true =>
    go_enter Try.func8, Try.ntmps8
    go_wp2_with fail
    refine (szTeam_any T 1048576 0 w.heap.size _ _ (hS.below (B := w.heap.size) (by repeat (first | (with_reducible exact Below.refl _ _) | (with_reducible refine below_ov ?_ ?_) | (with_reducible refine Below.setCell ?_ ?_ _) | (with_reducible refine Below.alloc ?_ ?_ _) | (with_reducible refine Below.drew ?_) | (with_reducible refine below_drewN ?_ _) | (refine Below.trans ?_ (Below.mono ‹Below _ _ _› (by first | omega | (simp; done) | (simp; omega)))) | exact Below.refl _ _ | omega | (focus (simp; done)) | (focus (simp; omega)))) (Nat.le_refl _)) (by omega) (by omega) sS).mono ?_
    rintro e w1 ⟨rfl, hb1⟩
    have hz1 := hb1.size
    go_wp2_with fail
    go_ret
    exact ⟨rfl, (by repeat (first | (with_reducible exact Below.refl _ _) | (with_reducible refine below_ov ?_ ?_) | (with_reducible refine Below.setCell ?_ ?_ _) | (with_reducible refine Below.alloc ?_ ?_ _) | (with_reducible refine Below.drew ?_) | (with_reducible refine below_drewN ?_ _) | (refine Below.trans ?_ (Below.mono ‹Below _ _ _› (by first | omega | (simp; done) | (simp; omega)))) | exact Below.refl _ _ | omega | (focus (simp; done)) | (focus (simp; omega))))⟩
  | false =>
    have hn := szTF_n (Int.not_lt.1 (of_decide_eq_false hd))
    have fS : T.fits := ⟨sS.1, by omega⟩
    go_enter Try.func8, Try.ntmps8
    go_wp2_with fail
    refine (szTeam_any T 1048576 0 w.heap.size _ _ (hS.below (B := w.heap.size) (by repeat (first | (with_reducible exact Below.refl _ _) | (with_reducible refine below_ov ?_ ?_) | (with_reducible refine Below.setCell ?_ ?_ _) | (with_reducible refine Below.alloc ?_ ?_ _) | (with_reducible refine Below.drew ?_) | (with_reducible refine below_drewN ?_ _) | (refine Below.trans ?_ (Below.mono ‹Below _ _ _› (by first | omega | (simp; done) | (simp; omega)))) | exact Below.refl _ _ | omega | (focus (simp; done)) | (focus (simp; omega)))) (Nat.le_refl _)) (by omega) (by omega) sS).mono ?_
    rintro e w1 ⟨rfl, hb1⟩
    have hz1 := hb1.size
    simp at hz1
    have b1 := (Box4.new w (.string T.s) (.int .i64 T.v) (.int .i64 T.y) vc 24).below hb1 (by simp)
    obtain ⟨x0, x1, x2, x3⟩ := id b1
    go_wp2_with fail
    refine (toTeam_any T 0 w.heap.size _ _ (hS.below (B := w.heap.size) (by repeat (first | (with_reducible exact Below.refl _ _) | (with_reducible refine below_ov ?_ ?_) | (with_reducible refine Below.setCell ?_ ?_ _) | (with_reducible refine Below.alloc ?_ ?_ _) | (with_reducible refine Below.drew ?_) | (with_reducible refine below_drewN ?_ _) | (refine Below.trans ?_ (Below.mono ‹Below _ _ _› (by first | omega | (simp; done) | (simp; omega)))) | exact Below.refl _ _ | omega | (focus (simp; done)) | (focus (simp; omega)))) (Nat.le_refl _)) (by first | omega | (simp; done) | (simp; omega)) fS).mono ?_
    rintro e w2 ⟨uS, rfl, o2S, hb2⟩
    have hz2 := hb2.size
    have b2 := b1.below hb2 (by omega)
    clear x0 x1 x2 x3 b1
    go_wp2_with fail
    refine (TeamState_spec T k w1.heap.size w2.heap.size _ _ o2S.sl (Nat.le_refl _) fS).mono ?_
    rintro e w3 ⟨rfl, hb3⟩
    have hz3 := hb3.size
    have b3 := b2.below hb3 (by omega)
    obtain ⟨x0, x1, x2, x3⟩ := id b3
    clear b2
    go_wp2_with fail
    refine (toTeam_any T 0 w.heap.size _ _ (hS.below (B := w.heap.size) (by repeat (first | (with_reducible exact Below.refl _ _) | (with_reducible refine below_ov ?_ ?_) | (with_reducible refine Below.setCell ?_ ?_ _) | (with_reducible refine Below.alloc ?_ ?_ _) | (with_reducible refine Below.drew ?_) | (with_reducible refine below_drewN ?_ _) | (refine Below.trans ?_ (Below.mono ‹Below _ _ _› (by first | omega | (simp; done) | (simp; omega)))) | exact Below.refl _ _ | omega | (focus (simp; done)) | (focus (simp; omega)))) (Nat.le_refl _)) (by first | omega | (simp; done) | (simp; omega)) fS).mono ?_
    rintro e w4 ⟨yS, rfl, o4S, hb4⟩
    have hz4 := hb4.size
    have b4 := b3.below hb4 (by omega)
    clear x0 x1 x2 x3 b3
    obtain ⟨A4, k4, rfl, q4, _⟩ := o4S.sl.open_
    go_wp2_with fail
    have n5 := Box4.new w4 (.string T.s) (.int .i64 T.v) (.int .i64 T.y) (.slice A4 T.n k4) 29
    refine (TeamState_impl T k w3.heap.size w4.heap.size _ _ (o4S.alloc (Nat.le_refl _) _).sl (by simp) fS).mono ?_
    rintro e w5 ⟨rfl, hb5⟩
    have hz5 := hb5.size
    simp at hz5
    have b5 := b4.below (((Below.refl w4.heap.size w4).alloc (Nat.le_refl _) _).trans (hb5.mono (by simp))) (by omega)
    have n5' := n5.below hb5 (by simp)
    obtain ⟨x0, x1, x2, x3⟩ := b5
    obtain ⟨y0, y1, y2, y3⟩ := n5'
    have l5 : w4.heap.size < w5.heap.size := by omega
    have l5' : w.heap.size < w5.heap.size := by omega
    go_wp2_with fail
    go_region_with (first
      | (go_at_call 19; refine (toTeam_any T 0 w.heap.size _ _ (hS.below (B := w.heap.size) (by repeat (first | (with_reducible exact Below.refl _ _) | (with_reducible refine below_ov ?_ ?_) | (with_reducible refine Below.setCell ?_ ?_ _) | (with_reducible refine Below.alloc ?_ ?_ _) | (with_reducible refine Below.drew ?_) | (with_reducible refine below_drewN ?_ _) | (refine Below.trans ?_ (Below.mono ‹Below _ _ _› (by first | omega | (simp; done) | (simp; omega)))) | exact Below.refl _ _ | omega | (focus (simp; done)) | (focus (simp; omega)))) (Nat.le_refl _)) (by first | omega | (simp; done) | (simp; omega)) fS).mono ?_; rintro e w6 ⟨zS, rfl, o6S, hb6⟩; have hz6 := hb6.size; simp at hz6; have y0' := (hb6.cell (p := ⟨w4.heap.size, 0, none⟩) (by simpa using l5)).trans (by simpa using y0); have y1' := (hb6.cell (p := ⟨w4.heap.size, 1, none⟩) (by simpa using l5)).trans (by simpa using y1); have y2' := (hb6.cell (p := ⟨w4.heap.size, 2, none⟩) (by simpa using l5)).trans (by simpa using y2); have y3' := (hb6.cell (p := ⟨w4.heap.size, 3, none⟩) (by simpa using l5)).trans (by simpa using y3))
      | (go_at_call 21; refine (eqTeam_same T w3.heap.size w4.heap.size w5.drew.heap.size w6.heap.size _ _ _ (o4S.below (B := w4.heap.size) (by repeat (first | (with_reducible exact Below.refl _ _) | (with_reducible refine below_ov ?_ ?_) | (with_reducible refine Below.setCell ?_ ?_ _) | (with_reducible refine Below.alloc ?_ ?_ _) | (with_reducible refine Below.drew ?_) | (with_reducible refine below_drewN ?_ _) | (refine Below.trans ?_ (Below.mono ‹Below _ _ _› (by first | omega | (simp; done) | (simp; omega)))) | exact Below.refl _ _ | omega | (focus (simp; done)) | (focus (simp; omega)))) (Nat.le_refl _)).sl o6S.sl (by first | omega | (simp; done) | (simp; omega)) (by first | omega | (simp; done) | (simp; omega)) fS).mono ?_; rintro e w7 ⟨rfl, hb7⟩; have hz7 := hb7.size))
    all_goals go_wp2_with fail
    all_goals go_ret
    all_goals exact ⟨rfl, (by repeat (first | (with_reducible exact Below.refl _ _) | (with_reducible refine below_ov ?_ ?_) | (with_reducible refine Below.setCell ?_ ?_ _) | (with_reducible refine Below.alloc ?_ ?_ _) | (with_reducible refine Below.drew ?_) | (with_reducible refine below_drewN ?_ _) | (refine Below.trans ?_ (Below.mono ‹Below _ _ _› (by first | omega | (simp; done) | (simp; omega)))) | exact Below.refl _ _ | omega | (focus (simp; done)) | (focus (simp; omega))))⟩

set_option maxRecDepth 100000 in
theorem FnExactTeamState_lifted (os : Os) (started : os.Started) (H : Type) (enc : TypeId × Value → H) :
    ReturnsInHanded {} Try.checked os 8 .any (Rows.fnExactTeamStateSpec.pre6 enc Try.prog Try.f8 Rows.fnExactTeamStateRow.domain false) (Rows.fnExactTeamStateSpec.post enc Try.prog Try.f8 false true false false) := by
  refine returnsInHanded_of_change_sized (C := Try.checked) Try.own started (by kernel_rfl) Try.func8
    (ChangeSpec.witness6 (enc := enc) (C := Try.checked) false ⟨#[], #[.agg #[.string ⟨#[]⟩, .int .i64 0, .int .i64 0, .slice none 0 0], .int .i64 0], []⟩ 8 (by kernel_rfl) (by kernel_rfl) (by kernel_rfl) (by kernel_rfl)) ?_
  intro W base args ds gs before hval0 hW _ hsz _
  have hval : ∀ (j : Nat) t v, Try.f8.params[j]? = some t → args[j]? = some v → Value.okWide Try.prog W .any base t v := hval0
  have hW' := hW
  obtain ⟨p, q, hA0, hV, rfl, hfz, hnd⟩ := hW
  have hA : DataW.TrodAll enc Try.prog W 0 (fun _ => true) true Try.f8.params.toList args.toList ds p := hA0
  rw [Try.params8] at hA hval
  obtain ⟨v0, vs0, d0, ds0, p0, q0, hargs, rfl, rfl, h0, r0⟩ := trodAll_cons hA
  obtain ⟨v1, vs1, d1, ds1, p1, q1, rfl, rfl, rfl, h1, r1⟩ := trodAll_cons r0
  obtain ⟨rfl, rfl, rfl⟩ := trodAll_nil r1
  obtain rfl : args = #[v0, v1] := by cases args; simp_all
  obtain ⟨rfl, rfl⟩ := trodVars_none hV
  have hend : ∀ W', Below W.heap.size W W' → Rows.fnExactTeamStateSpec.post enc Try.prog Try.f8 false true false false W #[v0, v1] (.bool true) W' := fun W' hb =>
    law_post (T := 4) Try.laidOut rfl (by kernel_rfl) rfl Try.underlying4 hW' rfl hb
  clear hW' hA0 hval0
  obtain ⟨T, vc, rfl, hA0⟩ := openTeam (hval 0 _ v0 rfl rfl) h0
  obtain ⟨k, rfl, rfl, rfl, wf1⟩ := open_int Try.underlying3 (hval 1 _ v1 rfl rfl) h1
  refine (FnExactTeamState_walk T vc k W hA0).mono fun e W' ⟨he, hb⟩ => ?_
  subst he
  exact ⟨_, rfl, hend W' hb⟩
/-- The statement. -/
theorem FnExactTeamState_holds : Rows.FnExactTeamStateSaid :=
  OpenClaim.holds_of_wide 8 Try.f8 rfl rfl rfl rfl rfl rfl rfl ⟨rfl, rfl, rfl, rfl, rfl⟩ rfl rfl rfl rfl rfl (by kernel_rfl) Try.func8 (show joinedFacts Try.prog 8 Try.f8 Rows.fnExactTeamStateSpec Rows.fnExactTeamStateRow = true from by unfold joinedFacts; rw [Try.heard, Try.enters, Try.lifts, Try.laidOut, Try.rowed, Try.made]; kernel_rfl)
    (of_decide_eq_true (by kernel_rfl)) (by unfold Func.isWrapper; first | (rw [if_pos (by decide +kernel)]; kernel_rfl) | (rw [if_neg (by decide +kernel)]; exact ⟨rfl, rfl⟩))
    (fun os started H enc _ => FnExactTeamState_lifted os started H enc)
#print axioms FnExactTeamState_holds

end Go.Proofs.Ytmjlkdnfpbmknaa
