/-
  FnExactMessageText: the law returns true at every message. Its only condition is the row's own: the library's table of powers of ten as its initialiser lays it (tied by the card).
-/
import Derived.Test.YtkkaknagnhhgcaaDoorWMtx
import Derived.Test.YtkkaknagnhhgcaaDoorFrame
import Derived.Test.YtkkaknagnhhgcaaDoorDFrame
import Derived.Test.YtkkaknagnhhgcaaDoorTie
import Derived.Lay
import Derived.LaidMore
import Derived.SevenTiedAt
import Derived.Stop.Joined
import Derived.Stop.LaidErr
namespace Go.Proofs.YtkkaknagnhhgcaaDoor
set_option linter.unusedVariables false
set_option linter.unusedSimpArgs false
open Go.ChangeShapes Go.WideShapes Go.ChangeAt Go.RowKit Go.Joins Go.Deep
theorem Tryd.cells23 : Tryd.prog.cellsOf 23 = 3 := by kernel_rfl
theorem tab_of_laid {W : World} (h : laidMetH Tryd.prog Rows.fnExactMessageTextRow.laid W) : Tab W := by
  rw [MakeChecks.laidMetH_plain _ _ _ (by kernel_rfl)] at h
  have h2 : laidMet Tryd.prog [("internal/strconv.uint64pow10", Lib.tabData .u64 Lib.pow10Tab)] W := laidMet.tail (laidMet.tail h)
  exact Lib.tabIs_of_head pow10_named (by kernel_rfl) Tryd.underlying45 Tryd.underlying38 (by kernel_rfl) (by kernel_rfl) h2

set_option maxHeartbeats 800000 in
theorem FnExactMessageText_walk (f : ByteArray) (n : Int) (b : ByteArray) (w : World) (hf : f.size ≤ maxLen) (hb : b.size ≤ maxLen) (ht : Tab w) :
    Calls Tryd.prog 3 #[.agg #[.string f, .int .i64 n, .string b]] w fun e w' => e = .returned (.bool true) ∧ Below w.heap.size w w' := by
  cases hd : decide (sz2F 1048576 f.size b.size < 0) with
  | false =>
    go_enter Tryd.func3, Tryd.ntmps3
    go_wp2_with (first | (go_at_call 4; refine (szMessage_any _ _ _ _ _ (by omega) (by omega) hf hb).mono ?_; rintro e w1 ⟨rfl, hb1⟩; have hz1 := hb1.size; (try (simp at hz1)); obtain ⟨hcw1, hfw1⟩ := bcell hb1; (try (have hy1 : w.heap.size < w1.heap.size := by omega)); (try (have hyy1 : w.heap.size + 1 < w1.heap.size := by omega)); (try (have hyyy1 : w.heap.size + 1 + 1 < w1.heap.size := by omega))) | (go_at_call 6; refine (toMessage_any _ _ _ _).mono ?_; rintro e w2 ⟨rfl, hb2⟩; have hz2 := hb2.size; (try (simp at hz2)); obtain ⟨hcw2, hfw2⟩ := bcell hb2; (try (have hy2 : w.heap.size < w2.heap.size := by omega)); (try (have hyy2 : w.heap.size + 1 < w2.heap.size := by omega)); (try (have hyyy2 : w.heap.size + 1 + 1 < w2.heap.size := by omega))) | (go_at_call 5; refine (MessageText_spec _ _ _ _ hf hb).mono ?_; rintro e w3 ⟨rfl, hb3⟩; have hz3 := hb3.size; (try (simp at hz3)); obtain ⟨hcw3, hfw3⟩ := bcell hb3; (try (have hy3 : w.heap.size < w3.heap.size := by omega)); (try (have hyy3 : w.heap.size + 1 < w3.heap.size := by omega)); (try (have hyyy3 : w.heap.size + 1 + 1 < w3.heap.size := by omega))) | (go_at_call 7; refine (MessageText_impl _ _ _ _ hf hb (ht.below (B := w.heap.size) (by repeat (first | (with_reducible exact Below.refl _ _) | (with_reducible refine below_ov ?_ ?_) | (with_reducible refine Below.setCell ?_ ?_ _) | (with_reducible refine Below.alloc ?_ ?_ _) | (with_reducible refine Below.drew ?_) | (with_reducible refine below_drewN ?_ _) | (refine Below.trans ?_ (Below.mono ‹Below _ _ _› (by first | omega | (simp; done) | (simp; omega)))) | exact Below.refl _ _ | omega | (focus (simp; done)) | (focus (simp; omega)))) (Nat.le_refl _))).mono ?_; rintro e w4 ⟨rfl, hb4⟩; have hz4 := hb4.size; (try (simp at hz4)); obtain ⟨hcw4, hfw4⟩ := bcell hb4; (try (have hy4 : w.heap.size < w4.heap.size := by omega)); (try (have hyy4 : w.heap.size + 1 < w4.heap.size := by omega)); (try (have hyyy4 : w.heap.size + 1 + 1 < w4.heap.size := by omega))))
    all_goals go_ret
    all_goals exact ⟨rfl, (by repeat (first | (with_reducible exact Below.refl _ _) | (with_reducible refine below_ov ?_ ?_) | (with_reducible refine Below.setCell ?_ ?_ _) | (with_reducible refine Below.alloc ?_ ?_ _) | (with_reducible refine Below.drew ?_) | (with_reducible refine below_drewN ?_ _) | (refine Below.trans ?_ (Below.mono ‹Below _ _ _› (by first | omega | (simp; done) | (simp; omega)))) | exact Below.refl _ _ | omega | (focus (simp; done)) | (focus (simp; omega))))⟩
  | true =>
    go_enter Tryd.func3, Tryd.ntmps3
    go_wp2_with (first | (go_at_call 4; refine (szMessage_any _ _ _ _ _ (by omega) (by omega) hf hb).mono ?_; rintro e w1 ⟨rfl, hb1⟩; have hz1 := hb1.size; (try (simp at hz1)); obtain ⟨hcw1, hfw1⟩ := bcell hb1; (try (have hy1 : w.heap.size < w1.heap.size := by omega)); (try (have hyy1 : w.heap.size + 1 < w1.heap.size := by omega)); (try (have hyyy1 : w.heap.size + 1 + 1 < w1.heap.size := by omega))))
    all_goals go_ret
    all_goals exact ⟨rfl, (by repeat (first | (with_reducible exact Below.refl _ _) | (with_reducible refine below_ov ?_ ?_) | (with_reducible refine Below.setCell ?_ ?_ _) | (with_reducible refine Below.alloc ?_ ?_ _) | (with_reducible refine Below.drew ?_) | (with_reducible refine below_drewN ?_ _) | (refine Below.trans ?_ (Below.mono ‹Below _ _ _› (by first | omega | (simp; done) | (simp; omega)))) | exact Below.refl _ _ | omega | (focus (simp; done)) | (focus (simp; omega))))⟩

set_option maxRecDepth 100000 in
theorem FnExactMessageText_lifted (os : Os) (started : os.Started) (H : Type) (enc : TypeId × Value → H) :
    ReturnsInHanded {} Tryd.checked os 3 .any (fun w args => (Rows.fnExactMessageTextSpec.pre enc Tryd.prog Tryd.f3 Rows.fnExactMessageTextRow.domain false w args ∧ laidMetH Tryd.prog Rows.fnExactMessageTextRow.laid w) ∧ sizedMet enc Tryd.prog Tryd.f3 (OpenSpec.ofChange Rows.fnExactMessageTextSpec) false w args) (Rows.fnExactMessageTextSpec.post enc Tryd.prog Tryd.f3 false true false false) := by
  refine returnsInHanded_of_change_and (C := Tryd.checked) (X := fun w _ => laidMetH Tryd.prog Rows.fnExactMessageTextRow.laid w) (fun _ _ _ hh h => h.of_heap hh) Tryd.own started (by kernel_rfl) Tryd.func3
    (ChangeSpec.witness_shaped (enc := enc) (C := Tryd.checked) (os := os) (X := fun w _ => laidMetH Tryd.prog Rows.fnExactMessageTextRow.laid w) false (World.laidAll Tryd.prog os Rows.fnExactMessageTextRow.laid) #[.agg #[.string ⟨#[]⟩, .int .i64 0, .string ⟨#[]⟩]] 8 (World.laidAll_os _ _ _)
      (World.shaped_of_ZipB (by kernel_rfl) (by kernel_rfl)) (by kernel_rfl) (by kernel_rfl) (by kernel_rfl)
      (by rw [MakeChecks.laidMetH_plain _ _ _ (by kernel_rfl)]; exact laidMet_laidAll _ (by kernel_rfl) (by kernel_rfl))) ?_
  intro W base args ds gs before hval0 hW _ hsz hL _
  have hval : ∀ (j : Nat) t v, Tryd.f3.params[j]? = some t → args[j]? = some v → Value.okWide Tryd.prog W .any base t v := hval0
  have hW' := hW
  obtain ⟨p, q, hA0, hV, rfl, hfz, hnd⟩ := hW
  have hA : DataW.TrodAll enc Tryd.prog W 0 (fun _ => true) true Tryd.f3.params.toList args.toList ds p := hA0
  rw [Tryd.params3] at hA hval
  obtain ⟨v0, vs0, d0, ds0, p0, q0, hargs, rfl, rfl, h0, r0⟩ := trodAll_cons hA
  obtain ⟨rfl, rfl, rfl⟩ := trodAll_nil r0
  obtain rfl : args = #[v0] := by cases args; simp_all
  obtain ⟨rfl, rfl⟩ := trodVars_none hV
  have hend : ∀ W', Below W.heap.size W W' → Rows.fnExactMessageTextSpec.post enc Tryd.prog Tryd.f3 false true false false W #[v0] (.bool true) W' := fun W' hb =>
    law_post (T := 4) Tryd.laidOut rfl (by kernel_rfl) rfl Tryd.underlying4 hW' rfl hb
  clear hW' hA0 hval0
  obtain ⟨c0_0, c0_1, c0_2, y0_0, y0_1, y0_2, m0, rfl, rfl, rfl, hy0_0, hy0_1, hy0_2⟩ := open_agg3 Tryd.underlying23 (by kernel_rfl) Tryd.cells23 (hval 0 _ v0 rfl rfl) h0
  obtain ⟨f, e0_0, rfl, wf0_0⟩ := DataW.trod_string Tryd.underlying9 hy0_0
  obtain ⟨n, e0_1, rfl, wf0_1⟩ := DataW.trod_int Tryd.underlying3 hy0_1
  obtain ⟨b, e0_2, rfl, wf0_2⟩ := DataW.trod_string Tryd.underlying9 hy0_2
  simp at e0_0 e0_1 e0_2
  subst e0_0 e0_1 e0_2
  refine (FnExactMessageText_walk f n b W wf0_0 wf0_2 (tab_of_laid hL)).mono fun e W' ⟨he, hb⟩ => ?_
  subst he
  exact ⟨_, rfl, hend W' hb⟩
/-- The statement. -/
theorem FnExactMessageText_holds : Rows.FnExactMessageTextSaid :=
  OpenClaim.holds_of_wide 3 Tryd.f3 rfl rfl rfl rfl rfl rfl rfl ⟨rfl, rfl, rfl, rfl, rfl⟩ rfl rfl rfl rfl rfl (by kernel_rfl) Tryd.func3 (show joinedFacts Tryd.prog 3 Tryd.f3 Rows.fnExactMessageTextSpec Rows.fnExactMessageTextRow = true from by unfold joinedFacts; rw [Tryd.heard, Tryd.enters, Tryd.lifts, Tryd.laidOut, Tryd.rowed, Tryd.made]; kernel_rfl)
    (of_decide_eq_true (by kernel_rfl)) (by unfold Func.isWrapper; first | (rw [if_pos (by decide +kernel)]; kernel_rfl) | (rw [if_neg (by decide +kernel)]; exact ⟨rfl, rfl⟩))
    (fun os started H enc _ => FnExactMessageText_lifted os started H enc)
#print axioms FnExactMessageText_holds
/-- The tied card. -/
theorem FnExactMessageText_card : Rows.FnExactMessageTextCardSaid :=
  Claim7.holds_tied_plain_at .later [] [.data, .data, .data] true (true, "aaca83532be8bbcf217e5a2bb4dd22f9fcaaa313b52bd61fd59f6db0315957bb") false FnExactMessageText_holds (fun _ h => by cases h) (by kernel_rfl) (fun _ h => by cases h) fnExactMessageText_row_tie rfl ⟨rfl, rfl⟩ Tryd.mainIs0 rfl
    (fun f fn hf hfn => by
      obtain rfl : f = 3 := Option.some.inj ((show Tryd.prog.funcNamed "loop.example/g01020/laws.FnExactMessageText" = some 3 by kernel_rfl).symm.trans hf) |>.symm
      obtain rfl : fn = Tryd.f3 := (Option.some.inj (Tryd.func3.symm.trans hfn)).symm
      exact ⟨Tryd.looks0, fun j t ht => by
        have hall : (Tryd.f3.params.toList.all fun u => !Tryd.prog.wantsStandIn u) = true := by kernel_rfl
        have hm : t ∈ Tryd.f3.params.toList := by simpa using Array.mem_of_getElem? ht
        exact (show Tryd.prog.wantsStandIn t = false by simpa using List.all_eq_true.1 hall t hm)⟩)
    (by kernel_rfl)
#print axioms FnExactMessageText_card

end Go.Proofs.YtkkaknagnhhgcaaDoor
