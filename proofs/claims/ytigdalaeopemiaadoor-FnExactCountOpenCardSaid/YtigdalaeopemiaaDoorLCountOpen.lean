/-
  FnExactCountOpen: the law returns true at every input. No condition.
-/
import Derived.Test.YtigdalaeopemiaaDoorOString
import Derived.Test.YtigdalaeopemiaaDoorDString
import Derived.Test.YtigdalaeopemiaaDoorWSzS
import Derived.Test.YtigdalaeopemiaaDoorWCnt
import Derived.Test.YtigdalaeopemiaaDoorFrame
import Derived.Test.YtigdalaeopemiaaDoorDFrame
import Derived.Test.YtigdalaeopemiaaDoorTie
import Derived.Lay
import Derived.LaidMore
import Derived.SevenTiedAt
import Derived.Stop.Joined
namespace Go.Proofs.YtigdalaeopemiaaDoor
set_option linter.unusedVariables false
set_option linter.unusedSimpArgs false
open Go.ChangeShapes Go.WideShapes Go.ChangeAt Go.RowKit Go.Joins Go.Deep

set_option maxRecDepth 100000 in
set_option maxHeartbeats 3200000 in
theorem FnExactCountOpen_walk (A : Option Addr) (n cap : Nat) (F : Nat → ByteArray) (w : World) (hcap : n ≤ cap) (hmax : cap ≤ maxLen) (hA : SlA w 0 w.heap.size 1 A n (sC F)) (hsz : ∀ i, i < n → (F i).size ≤ maxLen) :
    Calls Tryd.prog 11 #[.slice A n cap] w fun e w' => e = .returned (.bool true) ∧ Below w.heap.size w w' := by
  unfold maxLen at hmax
  have hS : Sl w 0 w.heap.size 1 (.slice A n cap) n (sC F) := hA.shut hcap
  clear hA
  cases hd : decide (szPF 1048576 F n < 0) with
  | true =>
    go_enter Tryd.func11, Tryd.ntmps11
    go_wp2_with fail
    refine (szStringS_any F n 1048576 0 w.heap.size _ _ (hS.below (B := w.heap.size) (by repeat (first | (with_reducible exact Below.refl _ _) | (with_reducible refine below_ov ?_ ?_) | (with_reducible refine Below.setCell ?_ ?_ _) | (with_reducible refine Below.alloc ?_ ?_ _) | (with_reducible refine Below.drew ?_) | (with_reducible refine below_drewN ?_ _) | (refine Below.trans ?_ (Below.mono ‹Below _ _ _› (by first | omega | (simp; done) | (simp; omega)))) | exact Below.refl _ _ | omega | (focus (simp; done)) | (focus (simp; omega)))) (Nat.le_refl _)) (by first | omega | (simp; done) | (simp; omega)) (by omega) (by omega) (by omega) hsz).mono ?_
    rintro e w1 ⟨rfl, hb1⟩
    have hz1 := hb1.size
    (try (simp at hz1))
    go_wp2_with fail
    go_ret
    exact ⟨rfl, (by repeat (first | (with_reducible exact Below.refl _ _) | (with_reducible refine below_ov ?_ ?_) | (with_reducible refine Below.setCell ?_ ?_ _) | (with_reducible refine Below.alloc ?_ ?_ _) | (with_reducible refine Below.drew ?_) | (with_reducible refine below_drewN ?_ _) | (refine Below.trans ?_ (Below.mono ‹Below _ _ _› (by first | omega | (simp; done) | (simp; omega)))) | exact Below.refl _ _ | omega | (focus (simp; done)) | (focus (simp; omega))))⟩
  | false =>
    have hd0 := Int.not_lt.1 (of_decide_eq_false hd)
    have hn := szPF_n hd0
    have hf : ffits F n := ⟨by omega, hsz⟩
    have HQF := hide (sL_self F n)
    go_enter Tryd.func11, Tryd.ntmps11
    go_wp2_with fail
    refine (szStringS_any F n 1048576 0 w.heap.size _ _ (hS.below (B := w.heap.size) (by repeat (first | (with_reducible exact Below.refl _ _) | (with_reducible refine below_ov ?_ ?_) | (with_reducible refine Below.setCell ?_ ?_ _) | (with_reducible refine Below.alloc ?_ ?_ _) | (with_reducible refine Below.drew ?_) | (with_reducible refine below_drewN ?_ _) | (refine Below.trans ?_ (Below.mono ‹Below _ _ _› (by first | omega | (simp; done) | (simp; omega)))) | exact Below.refl _ _ | omega | (focus (simp; done)) | (focus (simp; omega)))) (Nat.le_refl _)) (by first | omega | (simp; done) | (simp; omega)) (by omega) (by omega) (by omega) hsz).mono ?_
    rintro e w1 ⟨rfl, hb1⟩
    have hz1 := hb1.size
    (try (simp at hz1))
    go_wp2_with fail
    refine (toStringS_any F n _ _ _ _ (hS.below (B := w.heap.size) (by repeat (first | (with_reducible exact Below.refl _ _) | (with_reducible refine below_ov ?_ ?_) | (with_reducible refine Below.setCell ?_ ?_ _) | (with_reducible refine Below.alloc ?_ ?_ _) | (with_reducible refine Below.drew ?_) | (with_reducible refine below_drewN ?_ _) | (refine Below.trans ?_ (Below.mono ‹Below _ _ _› (by first | omega | (simp; done) | (simp; omega)))) | exact Below.refl _ _ | omega | (focus (simp; done)) | (focus (simp; omega)))) (Nat.le_refl _)) (by first | omega | (simp; done) | (simp; omega)) hf.1).mono ?_
    rintro e w2 ⟨v2, rfl, ho2, hb2⟩
    have hz2 := hb2.size
    (try (simp at hz2))
    go_wp2_with fail
    refine (CountOpen_spec F n _ _ _ _ (ho2.below (B := w2.heap.size) (by repeat (first | (with_reducible exact Below.refl _ _) | (with_reducible refine below_ov ?_ ?_) | (with_reducible refine Below.setCell ?_ ?_ _) | (with_reducible refine Below.alloc ?_ ?_ _) | (with_reducible refine Below.drew ?_) | (with_reducible refine below_drewN ?_ _) | (refine Below.trans ?_ (Below.mono ‹Below _ _ _› (by first | omega | (simp; done) | (simp; omega)))) | exact Below.refl _ _ | omega | (focus (simp; done)) | (focus (simp; omega)))) (Nat.le_refl _)).sl (by first | omega | (simp; done) | (simp; omega)) hf).mono ?_
    rintro e w3 ⟨rfl, hb3⟩
    have hz3 := hb3.size
    (try (simp at hz3))
    go_wp2_with fail
    refine (toStringS_any F n _ _ _ _ (hS.below (B := w.heap.size) (by repeat (first | (with_reducible exact Below.refl _ _) | (with_reducible refine below_ov ?_ ?_) | (with_reducible refine Below.setCell ?_ ?_ _) | (with_reducible refine Below.alloc ?_ ?_ _) | (with_reducible refine Below.drew ?_) | (with_reducible refine below_drewN ?_ _) | (refine Below.trans ?_ (Below.mono ‹Below _ _ _› (by first | omega | (simp; done) | (simp; omega)))) | exact Below.refl _ _ | omega | (focus (simp; done)) | (focus (simp; omega)))) (Nat.le_refl _)) (by first | omega | (simp; done) | (simp; omega)) hf.1).mono ?_
    rintro e w4 ⟨v4, rfl, ho4, hb4⟩
    have hz4 := hb4.size
    (try (simp at hz4))
    go_wp2_with fail
    refine (CountOpen_impl F n _ _ _ _ (ho4.below (B := w4.heap.size) (by repeat (first | (with_reducible exact Below.refl _ _) | (with_reducible refine below_ov ?_ ?_) | (with_reducible refine Below.setCell ?_ ?_ _) | (with_reducible refine Below.alloc ?_ ?_ _) | (with_reducible refine Below.drew ?_) | (with_reducible refine below_drewN ?_ _) | (refine Below.trans ?_ (Below.mono ‹Below _ _ _› (by first | omega | (simp; done) | (simp; omega)))) | exact Below.refl _ _ | omega | (focus (simp; done)) | (focus (simp; omega)))) (Nat.le_refl _)).sl (by first | omega | (simp; done) | (simp; omega)) hf).mono ?_
    rintro e w5 ⟨rfl, hb5⟩
    have hz5 := hb5.size
    (try (simp at hz5))
    go_wp2_with fail
    refine (toStringS_any F n _ _ _ _ (hS.below (B := w.heap.size) (by repeat (first | (with_reducible exact Below.refl _ _) | (with_reducible refine below_ov ?_ ?_) | (with_reducible refine Below.setCell ?_ ?_ _) | (with_reducible refine Below.alloc ?_ ?_ _) | (with_reducible refine Below.drew ?_) | (with_reducible refine below_drewN ?_ _) | (refine Below.trans ?_ (Below.mono ‹Below _ _ _› (by first | omega | (simp; done) | (simp; omega)))) | exact Below.refl _ _ | omega | (focus (simp; done)) | (focus (simp; omega)))) (Nat.le_refl _)) (by first | omega | (simp; done) | (simp; omega)) hf.1).mono ?_
    rintro e w6 ⟨v6, rfl, ho6, hb6⟩
    have hz6 := hb6.size
    (try (simp at hz6))
    go_wp2_with fail
    refine (eqStringS_any F F n n _ _ _ _ _ _ _ ((ho4.below (B := w4.heap.size) (by repeat (first | (with_reducible exact Below.refl _ _) | (with_reducible refine below_ov ?_ ?_) | (with_reducible refine Below.setCell ?_ ?_ _) | (with_reducible refine Below.alloc ?_ ?_ _) | (with_reducible refine Below.drew ?_) | (with_reducible refine below_drewN ?_ _) | (refine Below.trans ?_ (Below.mono ‹Below _ _ _› (by first | omega | (simp; done) | (simp; omega)))) | exact Below.refl _ _ | omega | (focus (simp; done)) | (focus (simp; omega)))) (Nat.le_refl _)).sl) ho6.sl (by first | omega | (simp; done) | (simp; omega)) (Nat.le_refl _) (by omega) (by omega)).mono ?_
    rintro e w7 ⟨rfl, hb7⟩
    have hz7 := hb7.size
    rw [HQF.out]
    go_wp2_with fail
    go_ret
    exact ⟨rfl, (by repeat (first | (with_reducible exact Below.refl _ _) | (with_reducible refine below_ov ?_ ?_) | (with_reducible refine Below.setCell ?_ ?_ _) | (with_reducible refine Below.alloc ?_ ?_ _) | (with_reducible refine Below.drew ?_) | (with_reducible refine below_drewN ?_ _) | (refine Below.trans ?_ (Below.mono ‹Below _ _ _› (by first | omega | (simp; done) | (simp; omega)))) | exact Below.refl _ _ | omega | (focus (simp; done)) | (focus (simp; omega))))⟩

set_option maxRecDepth 100000 in
theorem FnExactCountOpen_lifted (os : Os) (started : os.Started) (H : Type) (enc : TypeId × Value → H) :
    ReturnsInHanded {} Tryd.checked os 11 .any (fun w args => (Rows.fnExactCountOpenSpec.pre enc Tryd.prog Tryd.f11 Rows.fnExactCountOpenRow.domain false w args ∧ laidMetH Tryd.prog Rows.fnExactCountOpenRow.laid w) ∧ sizedMet enc Tryd.prog Tryd.f11 (OpenSpec.ofChange Rows.fnExactCountOpenSpec) false w args) (Rows.fnExactCountOpenSpec.post enc Tryd.prog Tryd.f11 false true false false) := by
  refine returnsInHanded_of_change_and (C := Tryd.checked) (X := fun w _ => laidMetH Tryd.prog Rows.fnExactCountOpenRow.laid w) (fun _ _ _ hh h => h.of_heap hh) Tryd.own started (by kernel_rfl) Tryd.func11
    (ChangeSpec.witness_shaped (enc := enc) (C := Tryd.checked) (os := os) (X := fun w _ => laidMetH Tryd.prog Rows.fnExactCountOpenRow.laid w) false (World.laidAll Tryd.prog os Rows.fnExactCountOpenRow.laid) #[.slice none 0 0] 8 (World.laidAll_os _ _ _)
      (World.shaped_of_ZipB (by kernel_rfl) (by kernel_rfl)) (by kernel_rfl) (by kernel_rfl) (by kernel_rfl)
      (by rw [MakeChecks.laidMetH_plain _ _ _ (by kernel_rfl)]; exact laidMet_laidAll _ (by kernel_rfl) (by kernel_rfl))) ?_
  intro W base args ds gs before hval0 hW _ hsz hL _
  have hval : ∀ (j : Nat) t v, Tryd.f11.params[j]? = some t → args[j]? = some v → Value.okWide Tryd.prog W .any base t v := hval0
  have hW' := hW
  obtain ⟨p, q, hA0, hV, rfl, hfz, hnd⟩ := hW
  have hA : DataW.TrodAll enc Tryd.prog W 0 (fun _ => true) true Tryd.f11.params.toList args.toList ds p := hA0
  rw [Tryd.params11] at hA hval
  obtain ⟨v0, vs0, d0, ds0, p0, q0, hargs, rfl, rfl, h0, r0⟩ := trodAll_cons hA
  obtain ⟨rfl, rfl, rfl⟩ := trodAll_nil r0
  obtain rfl : args = #[v0] := by cases args; simp_all
  obtain ⟨rfl, rfl⟩ := trodVars_none hV
  have hend : ∀ W', Below W.heap.size W W' → Rows.fnExactCountOpenSpec.post enc Tryd.prog Tryd.f11 false true false false W #[v0] (.bool true) W' := fun W' hb =>
    law_post (T := 4) Tryd.laidOut rfl (by kernel_rfl) rfl Tryd.underlying4 hW' rfl hb
  clear hW' hA0 hval0
  obtain ⟨A, n, cap, F, rfl, hk0, hm0, hA0⟩ := openString (hval 0 _ v0 rfl rfl) h0
  refine (FnExactCountOpen_walk A n cap F W hk0 hm0 hA0.1 hA0.2).mono fun e W' ⟨he, hb⟩ => ?_
  subst he
  exact ⟨_, rfl, hend W' hb⟩
/-- The statement. -/
theorem FnExactCountOpen_holds : Rows.FnExactCountOpenSaid :=
  OpenClaim.holds_of_wide 11 Tryd.f11 rfl rfl rfl rfl rfl rfl rfl ⟨rfl, rfl, rfl, rfl, rfl⟩ rfl rfl rfl rfl rfl (by kernel_rfl) Tryd.func11 (show joinedFacts Tryd.prog 11 Tryd.f11 Rows.fnExactCountOpenSpec Rows.fnExactCountOpenRow = true from by unfold joinedFacts; rw [Tryd.heard, Tryd.enters, Tryd.lifts, Tryd.laidOut, Tryd.rowed, Tryd.made]; kernel_rfl)
    (of_decide_eq_true (by kernel_rfl)) (by unfold Func.isWrapper; first | (rw [if_pos (by decide +kernel)]; kernel_rfl) | (rw [if_neg (by decide +kernel)]; exact ⟨rfl, rfl⟩))
    (fun os started H enc _ => FnExactCountOpen_lifted os started H enc)
#print axioms FnExactCountOpen_holds
/-- The tied card. -/
theorem FnExactCountOpen_card : Rows.FnExactCountOpenCardSaid :=
  Claim7.holds_tied_plain_at .later [] [.data, .pinned] true (true, "fec49d8f61669c89eab47b26e3ad606c1755da3616938e0eb563ff8b18fed253") false FnExactCountOpen_holds (fun _ h => by cases h) (by kernel_rfl) (fun _ h => by cases h) fnExactCountOpen_row_tie rfl ⟨rfl, rfl⟩ Tryd.mainIs0 rfl
    (fun f fn hf hfn => by
      obtain rfl : f = 11 := Option.some.inj ((show Tryd.prog.funcNamed "loop.example/g01020/laws.FnExactCountOpen" = some 11 by kernel_rfl).symm.trans hf) |>.symm
      obtain rfl : fn = Tryd.f11 := (Option.some.inj (Tryd.func11.symm.trans hfn)).symm
      exact ⟨Tryd.looks0, fun j t ht => by
        have hall : (Tryd.f11.params.toList.all fun u => !Tryd.prog.wantsStandIn u) = true := by kernel_rfl
        have hm : t ∈ Tryd.f11.params.toList := by simpa using Array.mem_of_getElem? ht
        exact (show Tryd.prog.wantsStandIn t = false by simpa using List.all_eq_true.1 hall t hm)⟩)
    (by kernel_rfl)
#print axioms FnExactCountOpen_card

end Go.Proofs.YtigdalaeopemiaaDoor
