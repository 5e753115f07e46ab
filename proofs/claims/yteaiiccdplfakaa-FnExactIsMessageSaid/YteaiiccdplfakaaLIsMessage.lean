/-
  FnExactIsMessage: the law returns true at every message. No condition.
-/
import Derived.Test.YteaiiccdplfakaaWMsg
import Derived.Test.YteaiiccdplfakaaFrame
namespace Go.Proofs.Yteaiiccdplfakaa
set_option linter.unusedVariables false
set_option linter.unusedSimpArgs false
open Go.ChangeShapes Go.WideShapes Go.ChangeAt Go.RowKit Go.Joins Go.Deep
theorem Try.cells23 : Try.prog.cellsOf 23 = 3 := by kernel_rfl

set_option maxHeartbeats 800000 in
theorem FnExactIsMessage_walk (f : ByteArray) (n : Int) (b : ByteArray) (w : World) (hf : f.size ≤ maxLen) (hb : b.size ≤ maxLen) :
    Calls Try.prog 3 #[.agg #[.string f, .int .i64 n, .string b]] w fun e w' => e = .returned (.bool true) ∧ Below w.heap.size w w' := by
  cases hd : decide (sz2F 1048576 f.size b.size < 0) with
  | false =>
    go_enter Try.func3, Try.ntmps3
    go_wp2_with (first | (go_at_call 9; refine (szMessage_any _ _ _ _ _ (by omega) (by omega) hf hb).mono ?_; rintro e w1 ⟨rfl, hb1⟩; have hz1 := hb1.size; (try (simp at hz1)); obtain ⟨hcw1, hfw1⟩ := bcell hb1; (try (have hy1 : w.heap.size < w1.heap.size := by omega)); (try (have hyy1 : w.heap.size + 1 < w1.heap.size := by omega)); (try (have hyyy1 : w.heap.size + 1 + 1 < w1.heap.size := by omega))) | (go_at_call 11; refine (toMessage_any _ _ _ _).mono ?_; rintro e w2 ⟨rfl, hb2⟩; have hz2 := hb2.size; (try (simp at hz2)); obtain ⟨hcw2, hfw2⟩ := bcell hb2; (try (have hy2 : w.heap.size < w2.heap.size := by omega)); (try (have hyy2 : w.heap.size + 1 < w2.heap.size := by omega)); (try (have hyyy2 : w.heap.size + 1 + 1 < w2.heap.size := by omega))) | (go_at_call 10; refine (IsMessage_spec _ _ _ _ hf hb).mono ?_; rintro e w3 ⟨rfl, hb3⟩; have hz3 := hb3.size; (try (simp at hz3)); obtain ⟨hcw3, hfw3⟩ := bcell hb3; (try (have hy3 : w.heap.size < w3.heap.size := by omega)); (try (have hyy3 : w.heap.size + 1 < w3.heap.size := by omega)); (try (have hyyy3 : w.heap.size + 1 + 1 < w3.heap.size := by omega))) | (go_at_call 12; refine (IsMessage_impl _ _ _ _ hf hb).mono ?_; rintro e w4 ⟨rfl, hb4⟩; have hz4 := hb4.size; (try (simp at hz4)); obtain ⟨hcw4, hfw4⟩ := bcell hb4; (try (have hy4 : w.heap.size < w4.heap.size := by omega)); (try (have hyy4 : w.heap.size + 1 < w4.heap.size := by omega)); (try (have hyyy4 : w.heap.size + 1 + 1 < w4.heap.size := by omega))))
    all_goals go_ret
    all_goals exact ⟨rfl, (by repeat (first | exact Below.refl _ _ | (refine Below.trans ?_ (Below.mono ‹Below _ _ _› (by first | omega | (simp; done) | (simp; omega)))) | (refine Below.alloc ?_ (by first | omega | (simp; done) | (simp; omega)) _) | (refine below_drewN ?_ _) | (refine Below.drew ?_) | (refine Below.setCell ?_ (by first | omega | (simp; done) | (simp; omega)) _)))⟩
  | true =>
    go_enter Try.func3, Try.ntmps3
    go_wp2_with (first | (go_at_call 9; refine (szMessage_any _ _ _ _ _ (by omega) (by omega) hf hb).mono ?_; rintro e w1 ⟨rfl, hb1⟩; have hz1 := hb1.size; (try (simp at hz1)); obtain ⟨hcw1, hfw1⟩ := bcell hb1; (try (have hy1 : w.heap.size < w1.heap.size := by omega)); (try (have hyy1 : w.heap.size + 1 < w1.heap.size := by omega)); (try (have hyyy1 : w.heap.size + 1 + 1 < w1.heap.size := by omega))))
    all_goals go_ret
    all_goals exact ⟨rfl, (by repeat (first | exact Below.refl _ _ | (refine Below.trans ?_ (Below.mono ‹Below _ _ _› (by first | omega | (simp; done) | (simp; omega)))) | (refine Below.alloc ?_ (by first | omega | (simp; done) | (simp; omega)) _) | (refine below_drewN ?_ _) | (refine Below.drew ?_) | (refine Below.setCell ?_ (by first | omega | (simp; done) | (simp; omega)) _)))⟩

set_option maxRecDepth 100000 in
theorem FnExactIsMessage_lifted (os : Os) (started : os.Started) (H : Type) (enc : TypeId × Value → H) :
    ReturnsInHanded {} Try.checked os 3 .any (Rows.fnExactIsMessageSpec.pre6 enc Try.prog Try.f3 Rows.fnExactIsMessageRow.domain false) (Rows.fnExactIsMessageSpec.post enc Try.prog Try.f3 false true false false) := by
  refine returnsInHanded_of_change_sized (C := Try.checked) Try.own started (by kernel_rfl) Try.func3
    (ChangeSpec.witness6 (enc := enc) (C := Try.checked) false ⟨#[], #[.agg #[.string ⟨#[]⟩, .int .i64 0, .string ⟨#[]⟩]], []⟩ 8 (by kernel_rfl) (by kernel_rfl) (by kernel_rfl) (by kernel_rfl)) ?_
  intro W base args ds gs before hval0 hW _ hsz _
  have hval : ∀ (j : Nat) t v, Try.f3.params[j]? = some t → args[j]? = some v → Value.okWide Try.prog W .any base t v := hval0
  have hW' := hW
  obtain ⟨p, q, hA0, hV, rfl, hfz, hnd⟩ := hW
  have hA : DataW.TrodAll enc Try.prog W 0 (fun _ => true) true Try.f3.params.toList args.toList ds p := hA0
  rw [Try.params3] at hA hval
  obtain ⟨v0, vs0, d0, ds0, p0, q0, hargs, rfl, rfl, h0, r0⟩ := trodAll_cons hA
  obtain ⟨rfl, rfl, rfl⟩ := trodAll_nil r0
  obtain rfl : args = #[v0] := by cases args; simp_all
  obtain ⟨rfl, rfl⟩ := trodVars_none hV
  have hend : ∀ W', Below W.heap.size W W' → Rows.fnExactIsMessageSpec.post enc Try.prog Try.f3 false true false false W #[v0] (.bool true) W' := fun W' hb =>
    law_post (T := 4) Try.laidOut rfl (by kernel_rfl) rfl Try.underlying4 hW' rfl hb
  clear hW' hA0 hval0
  obtain ⟨c0_0, c0_1, c0_2, y0_0, y0_1, y0_2, m0, rfl, rfl, rfl, hy0_0, hy0_1, hy0_2⟩ := open_agg3 Try.underlying23 (by kernel_rfl) Try.cells23 (hval 0 _ v0 rfl rfl) h0
  obtain ⟨f, e0_0, rfl, wf0_0⟩ := DataW.trod_string Try.underlying9 hy0_0
  obtain ⟨n, e0_1, rfl, wf0_1⟩ := DataW.trod_int Try.underlying3 hy0_1
  obtain ⟨b, e0_2, rfl, wf0_2⟩ := DataW.trod_string Try.underlying9 hy0_2
  simp at e0_0 e0_1 e0_2
  subst e0_0 e0_1 e0_2
  refine (FnExactIsMessage_walk f n b W wf0_0 wf0_2).mono fun e W' ⟨he, hb⟩ => ?_
  subst he
  exact ⟨_, rfl, hend W' hb⟩
/-- The statement. -/
theorem FnExactIsMessage_holds : Rows.FnExactIsMessageSaid :=
  OpenClaim.holds_of_wide 3 Try.f3 rfl rfl rfl rfl rfl rfl rfl ⟨rfl, rfl, rfl, rfl, rfl⟩ rfl rfl rfl rfl rfl (by kernel_rfl) Try.func3 (by kernel_rfl)
    (of_decide_eq_true (by kernel_rfl)) (by unfold Func.isWrapper; first | (rw [if_pos (by decide +kernel)]; kernel_rfl) | (rw [if_neg (by decide +kernel)]; exact ⟨rfl, rfl⟩))
    (fun os started H enc _ => FnExactIsMessage_lifted os started H enc)
#print axioms FnExactIsMessage_holds

end Go.Proofs.Yteaiiccdplfakaa
