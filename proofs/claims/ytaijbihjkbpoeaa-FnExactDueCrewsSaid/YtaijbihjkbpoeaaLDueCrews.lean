/-
  FnExactDueCrews: the law returns true at every input. No condition.
-/
import Derived.Test.YtaijbihjkbpoeaaOPeriod
import Derived.Test.YtaijbihjkbpoeaaMPeriod
import Derived.Test.YtaijbihjkbpoeaaMString
import Derived.Test.YtaijbihjkbpoeaaDPeriod
import Derived.Test.YtaijbihjkbpoeaaDString
import Derived.Test.YtaijbihjkbpoeaaWCrews3
import Derived.Test.YtaijbihjkbpoeaaWPerZ
import Derived.Test.YtaijbihjkbpoeaaFrame
namespace Go.Proofs.Ytaijbihjkbpoeaa
set_option linter.unusedVariables false
set_option linter.unusedSimpArgs false
open Go.ChangeShapes Go.WideShapes Go.ChangeAt Go.RowKit Go.Joins Go.Deep

theorem Own.only {w w' : World} {lo hi lo' hi' E sz n k : Nat} {v : Value} {c : Nat → Nat → Value} (h : Own w lo' hi' E sz v n k c) (hO : Only lo hi w w') (hd : hi' ≤ lo ∨ hi ≤ lo') (hs : hi' ≤ w.heap.size) : Own w' lo' hi' E sz v n k c :=
  h.keep fun b h1 h2 => hO.block b (by omega) (by omega)
set_option maxRecDepth 100000 in
set_option maxHeartbeats 3200000 in
theorem FnExactDueCrews_walk (A : Option Addr) (n cap : Nat) (c : Nat → ByteArray) (a b : Nat → Int) (m : Int) (q : Int) (w : World) (hcap : n ≤ cap) (hmax : cap ≤ maxLen) (hA : SlA w 0 w.heap.size 3 A n (siiC c a b)) (hsz : ∀ i, i < n → (c i).size ≤ maxLen) :
    Calls Try.prog 6 #[.slice A n cap, .int .i64 m, .int .i64 q] w fun e w' => e = .returned (.bool true) ∧ Below w.heap.size w w' := by
  unfold maxLen at hmax
  have hS : Sl w 0 w.heap.size 3 (.slice A n cap) n (siiC c a b) := hA.shut hcap
  clear hA
  cases hd : decide (szPF 1048576 c n < 0) with
  | true =>
    go_enter Try.func6, Try.ntmps6
    go_wp2_with fail
    refine (szPeriodS_any c a b n 1048576 0 w.heap.size _ _ (hS.below (B := w.heap.size) (by repeat (first | (with_reducible exact Below.refl _ _) | (with_reducible refine below_ov ?_ ?_) | (with_reducible refine Below.setCell ?_ ?_ _) | (with_reducible refine Below.alloc ?_ ?_ _) | (with_reducible refine Below.drew ?_) | (with_reducible refine below_drewN ?_ _) | (refine Below.trans ?_ (Below.mono ‹Below _ _ _› (by first | omega | (simp; done) | (simp; omega)))) | exact Below.refl _ _ | omega | (focus (simp; done)) | (focus (simp; omega)))) (Nat.le_refl _)) (by omega) (by omega) (by omega) (by omega) hsz).mono ?_
    rintro e w1 ⟨rfl, hb1⟩
    have hz1 := hb1.size
    (try (simp at hz1))
    go_wp2_with fail
    go_ret
    exact ⟨rfl, (by repeat (first | (with_reducible exact Below.refl _ _) | (with_reducible refine below_ov ?_ ?_) | (with_reducible refine Below.setCell ?_ ?_ _) | (with_reducible refine Below.alloc ?_ ?_ _) | (with_reducible refine Below.drew ?_) | (with_reducible refine below_drewN ?_ _) | (refine Below.trans ?_ (Below.mono ‹Below _ _ _› (by first | omega | (simp; done) | (simp; omega)))) | exact Below.refl _ _ | omega | (focus (simp; done)) | (focus (simp; omega))))⟩
  | false =>
    have hn := szPF_n (Int.not_lt.1 (of_decide_eq_false hd))
    have hf : pfits c n := ⟨by omega, hsz⟩
    have HQ := hide (siiL_self c a b n)
    obtain ⟨N, hN⟩ : ∃ N : Nat, N = dcN c a b n m q := ⟨_, rfl⟩
    obtain ⟨g0, hg0⟩ : ∃ g0 : Nat → ByteArray, g0 = dcS c a b n m q := ⟨_, rfl⟩
    have hNn : N ≤ 1048576 := by
      rw [hN]
      exact dcN_le
    have HI := hide (sL_self g0 N)
    have RS : ∀ (lo hi : Nat) (v : Value) (W : World), Sl W lo hi 3 v n (siiC c a b) → hi ≤ W.heap.size → Calls Try.prog 25 #[v, .int .i64 m, .int .i64 q] W fun e w' => ∃ v', e = .returned (.tuple #[v', .bool (dcOk c a b n m q)]) ∧ Own w' W.heap.size w'.heap.size 9 1 v' N N (sC g0) ∧ Below W.heap.size W w' := by
      intro lo hi v W h1 h2
      rw [hN, hg0]
      exact DueCrews_spec c a b n m q lo hi v W h1 h2 hf
    have RI : ∀ (lo hi : Nat) (v : Value) (W : World), Sl W lo hi 3 v n (siiC c a b) → hi ≤ W.heap.size → Calls Try.prog 26 #[v, .int .i64 m, .int .i64 q] W fun e w' => ∃ v', e = .returned (.tuple #[v', .bool (dcOk c a b n m q)]) ∧ Own w' W.heap.size w'.heap.size 9 1 v' N N (sC g0) ∧ Below W.heap.size W w' := by
      intro lo hi v W h1 h2
      rw [hN, hg0]
      exact DueCrews_impl c a b n m q lo hi v W h1 h2 hf
    have HRS := hide RS
    have HRI := hide RI
    clear RS RI hN hg0
    have d9 : decide (1 + (n : Int) * 3 < 0) = false := decide_eq_false (by omega)
    have d9' : decide (1 + (N : Int) < 0) = false := decide_eq_false (by omega)
    go_enter Try.func6, Try.ntmps6
    go_wp2_with fail
    refine (szPeriodS_any c a b n 1048576 0 w.heap.size _ _ (hS.below (B := w.heap.size) (by repeat (first | (with_reducible exact Below.refl _ _) | (with_reducible refine below_ov ?_ ?_) | (with_reducible refine Below.setCell ?_ ?_ _) | (with_reducible refine Below.alloc ?_ ?_ _) | (with_reducible refine Below.drew ?_) | (with_reducible refine below_drewN ?_ _) | (refine Below.trans ?_ (Below.mono ‹Below _ _ _› (by first | omega | (simp; done) | (simp; omega)))) | exact Below.refl _ _ | omega | (focus (simp; done)) | (focus (simp; omega)))) (Nat.le_refl _)) (by omega) (by omega) (by omega) (by omega) hsz).mono ?_
    rintro e w1 ⟨rfl, hb1⟩
    have hz1 := hb1.size
    (try (simp at hz1))
    go_wp2_with fail
    refine (toPeriodS_any c a b n _ _ _ _ (hS.below (B := w.heap.size) (by repeat (first | (with_reducible exact Below.refl _ _) | (with_reducible refine below_ov ?_ ?_) | (with_reducible refine Below.setCell ?_ ?_ _) | (with_reducible refine Below.alloc ?_ ?_ _) | (with_reducible refine Below.drew ?_) | (with_reducible refine below_drewN ?_ _) | (refine Below.trans ?_ (Below.mono ‹Below _ _ _› (by first | omega | (simp; done) | (simp; omega)))) | exact Below.refl _ _ | omega | (focus (simp; done)) | (focus (simp; omega)))) (Nat.le_refl _)) (by first | omega | (simp; done) | (simp; omega)) hf.1).mono ?_
    rintro e w2 ⟨v2, rfl, ho2, hb2⟩
    have hz2 := hb2.size
    (try (simp at hz2))
    go_wp2_with fail
    refine (HRS.out _ _ _ _ (ho2.below (B := w2.heap.size) (by repeat (first | (with_reducible exact Below.refl _ _) | (with_reducible refine below_ov ?_ ?_) | (with_reducible refine Below.setCell ?_ ?_ _) | (with_reducible refine Below.alloc ?_ ?_ _) | (with_reducible refine Below.drew ?_) | (with_reducible refine below_drewN ?_ _) | (refine Below.trans ?_ (Below.mono ‹Below _ _ _› (by first | omega | (simp; done) | (simp; omega)))) | exact Below.refl _ _ | omega | (focus (simp; done)) | (focus (simp; omega)))) (Nat.le_refl _)).sl (Nat.le_refl _)).mono ?_
    rintro e w3 ⟨v3, rfl, ho3, hb3⟩
    have hz3 := hb3.size
    (try (simp at hz3))
    go_wp2_with fail
    refine (toPeriodS_any c a b n _ _ _ _ (hS.below (B := w.heap.size) (by repeat (first | (with_reducible exact Below.refl _ _) | (with_reducible refine below_ov ?_ ?_) | (with_reducible refine Below.setCell ?_ ?_ _) | (with_reducible refine Below.alloc ?_ ?_ _) | (with_reducible refine Below.drew ?_) | (with_reducible refine below_drewN ?_ _) | (refine Below.trans ?_ (Below.mono ‹Below _ _ _› (by first | omega | (simp; done) | (simp; omega)))) | exact Below.refl _ _ | omega | (focus (simp; done)) | (focus (simp; omega)))) (Nat.le_refl _)) (by first | omega | (simp; done) | (simp; omega)) hf.1).mono ?_
    rintro e w4 ⟨v4, rfl, ho4, hb4⟩
    have hz4 := hb4.size
    (try (simp at hz4))
    go_wp2_with fail
    refine (HRI.out _ _ _ _ (ho4.below (B := w4.heap.size) (by repeat (first | (with_reducible exact Below.refl _ _) | (with_reducible refine below_ov ?_ ?_) | (with_reducible refine Below.setCell ?_ ?_ _) | (with_reducible refine Below.alloc ?_ ?_ _) | (with_reducible refine Below.drew ?_) | (with_reducible refine below_drewN ?_ _) | (refine Below.trans ?_ (Below.mono ‹Below _ _ _› (by first | omega | (simp; done) | (simp; omega)))) | exact Below.refl _ _ | omega | (focus (simp; done)) | (focus (simp; omega)))) (Nat.le_refl _)).sl (Nat.le_refl _)).mono ?_
    rintro e w5 ⟨v5, rfl, ho5, hb5⟩
    have hz5 := hb5.size
    (try (simp at hz5))
    go_wp2_with fail
    refine (eqStringS_any g0 g0 N N _ _ _ _ _ _ _ (ho5.below (B := w5.heap.size) (by repeat (first | (with_reducible exact Below.refl _ _) | (with_reducible refine below_ov ?_ ?_) | (with_reducible refine Below.setCell ?_ ?_ _) | (with_reducible refine Below.alloc ?_ ?_ _) | (with_reducible refine Below.drew ?_) | (with_reducible refine below_drewN ?_ _) | (refine Below.trans ?_ (Below.mono ‹Below _ _ _› (by first | omega | (simp; done) | (simp; omega)))) | exact Below.refl _ _ | omega | (focus (simp; done)) | (focus (simp; omega)))) (Nat.le_refl _)).sl (ho3.below (B := w3.heap.size) (by repeat (first | (with_reducible exact Below.refl _ _) | (with_reducible refine below_ov ?_ ?_) | (with_reducible refine Below.setCell ?_ ?_ _) | (with_reducible refine Below.alloc ?_ ?_ _) | (with_reducible refine Below.drew ?_) | (with_reducible refine below_drewN ?_ _) | (refine Below.trans ?_ (Below.mono ‹Below _ _ _› (by first | omega | (simp; done) | (simp; omega)))) | exact Below.refl _ _ | omega | (focus (simp; done)) | (focus (simp; omega)))) (Nat.le_refl _)).sl (by first | omega | (simp; done) | (simp; omega)) (by first | omega | (simp; done) | (simp; omega)) (by omega) (by omega)).mono ?_
    rintro e w6 ⟨rfl, hb6⟩
    have hz6 := hb6.size
    (try (simp at hz6))
    rw [HI.out]
    go_wp2_with fail
    refine (toPeriodS_any c a b n _ _ _ _ (hS.below (B := w.heap.size) (by repeat (first | (with_reducible exact Below.refl _ _) | (with_reducible refine below_ov ?_ ?_) | (with_reducible refine Below.setCell ?_ ?_ _) | (with_reducible refine Below.alloc ?_ ?_ _) | (with_reducible refine Below.drew ?_) | (with_reducible refine below_drewN ?_ _) | (refine Below.trans ?_ (Below.mono ‹Below _ _ _› (by first | omega | (simp; done) | (simp; omega)))) | exact Below.refl _ _ | omega | (focus (simp; done)) | (focus (simp; omega)))) (Nat.le_refl _)) (by first | omega | (simp; done) | (simp; omega)) hf.1).mono ?_
    rintro e w7 ⟨v7, rfl, ho7, hb7⟩
    have hz7 := hb7.size
    (try (simp at hz7))
    go_wp2_with fail
    refine (eqPeriodS_any c a b c a b n n _ _ _ _ _ _ _ ((ho4.below (B := w4.heap.size) (by repeat (first | (with_reducible exact Below.refl _ _) | (with_reducible refine below_ov ?_ ?_) | (with_reducible refine Below.setCell ?_ ?_ _) | (with_reducible refine Below.alloc ?_ ?_ _) | (with_reducible refine Below.drew ?_) | (with_reducible refine below_drewN ?_ _) | (refine Below.trans ?_ (Below.mono ‹Below _ _ _› (by first | omega | (simp; done) | (simp; omega)))) | exact Below.refl _ _ | omega | (focus (simp; done)) | (focus (simp; omega)))) (Nat.le_refl _)).sl) ho7.sl (by first | omega | (simp; done) | (simp; omega)) (Nat.le_refl _) (by omega) (by omega)).mono ?_
    rintro e w8 ⟨rfl, hb8⟩
    have hz8 := hb8.size
    (try (simp at hz8))
    rw [HQ.out]
    have o4 := hide (ho4.below (w' := w8) (B := w4.heap.size) (by repeat (first | (with_reducible exact Below.refl _ _) | (with_reducible refine below_ov ?_ ?_) | (with_reducible refine Below.setCell ?_ ?_ _) | (with_reducible refine Below.alloc ?_ ?_ _) | (with_reducible refine Below.drew ?_) | (with_reducible refine below_drewN ?_ _) | (refine Below.trans ?_ (Below.mono ‹Below _ _ _› (by first | omega | (simp; done) | (simp; omega)))) | exact Below.refl _ _ | omega | (focus (simp; done)) | (focus (simp; omega)))) (Nat.le_refl _))
    have o3 := hide (ho3.below (w' := w8) (B := w3.heap.size) (by repeat (first | (with_reducible exact Below.refl _ _) | (with_reducible refine below_ov ?_ ?_) | (with_reducible refine Below.setCell ?_ ?_ _) | (with_reducible refine Below.alloc ?_ ?_ _) | (with_reducible refine Below.drew ?_) | (with_reducible refine below_drewN ?_ _) | (refine Below.trans ?_ (Below.mono ‹Below _ _ _› (by first | omega | (simp; done) | (simp; omega)))) | exact Below.refl _ _ | omega | (focus (simp; done)) | (focus (simp; omega)))) (Nat.le_refl _))
    have o5 := hide (ho5.below (w' := w8) (B := w5.heap.size) (by repeat (first | (with_reducible exact Below.refl _ _) | (with_reducible refine below_ov ?_ ?_) | (with_reducible refine Below.setCell ?_ ?_ _) | (with_reducible refine Below.alloc ?_ ?_ _) | (with_reducible refine Below.drew ?_) | (with_reducible refine below_drewN ?_ _) | (refine Below.trans ?_ (Below.mono ‹Below _ _ _› (by first | omega | (simp; done) | (simp; omega)))) | exact Below.refl _ _ | omega | (focus (simp; done)) | (focus (simp; omega)))) (Nat.le_refl _))
    go_wp2_with fail
    refine (markPeriodS_any 1 n w3.heap.size w4.heap.size 0 _ (fun _ => .bool false) _ (o4.out.l _) (by omega) (by omega) (by omega) (by omega)).mono ?_
    rintro e w9 ⟨rfl, om9, hO9⟩
    have hz9 := hO9.size
    have hb9 : Below w.heap.size w8 w9 := hO9.below (by omega) (by omega)
    have p3 := hide (o3.out.only hO9 (.inl (Nat.le_refl _)) (by omega))
    have p5 := hide (o5.out.only hO9 (.inr (Nat.le_refl _)) (by omega))
    clear om9 o3 o4 o5
    go_wp2_with fail
    refine (eqStringS_any g0 g0 N N _ _ _ _ _ _ _ p5.out.sl p3.out.sl (by omega) (by omega) (by omega) (by omega)).mono ?_
    rintro e w10 ⟨rfl, hb10⟩
    have hz10 := hb10.size
    rw [HI.out]
    have r3 := hide (p3.out.below hb10 (by omega))
    have r5 := hide (p5.out.below hb10 (by omega))
    clear p3 p5
    go_wp2_with fail
    refine (markStringS_any 1 N w4.heap.size w5.heap.size 0 _ (fun _ => .bool false) _ (r5.out.l _) (by omega) (by omega) (by omega) (by omega)).mono ?_
    rintro e w11 ⟨rfl, om, hO11⟩
    have hz11 := hO11.size
    have hb11 : Below w.heap.size w10 w11 := hO11.below (by omega) (by omega)
    have s3 := hide (r3.out.only hO11 (.inl (by omega)) (by omega))
    have OM := hide om
    clear r3 r5 om
    go_wp2_with fail
    refine (heldStringS_same 1 N w4.heap.size w5.heap.size _ _ OM.out (by omega) (by omega) (by omega) (by omega)).mono ?_
    rintro e w12 ⟨rfl, hb12⟩
    have hz12 := hb12.size
    go_wp2_with fail
    refine (toPeriodS_any c a b n _ _ _ _ (hS.below (B := w.heap.size) (by repeat (first | (with_reducible exact Below.refl _ _) | (with_reducible refine below_ov ?_ ?_) | (with_reducible refine Below.setCell ?_ ?_ _) | (with_reducible refine Below.alloc ?_ ?_ _) | (with_reducible refine Below.drew ?_) | (with_reducible refine below_drewN ?_ _) | (refine Below.trans ?_ (Below.mono ‹Below _ _ _› (by first | omega | (simp; done) | (simp; omega)))) | exact Below.refl _ _ | omega | (focus (simp; done)) | (focus (simp; omega)))) (Nat.le_refl _)) (by first | omega | (simp; done) | (simp; omega)) hf.1).mono ?_
    rintro e w13 ⟨v13, rfl, ho13, hb13⟩
    have hz13 := hb13.size
    (try (simp at hz13))
    go_wp2_with fail
    refine (HRI.out _ _ _ _ (ho13.below (B := w13.heap.size) (by repeat (first | (with_reducible exact Below.refl _ _) | (with_reducible refine below_ov ?_ ?_) | (with_reducible refine Below.setCell ?_ ?_ _) | (with_reducible refine Below.alloc ?_ ?_ _) | (with_reducible refine Below.drew ?_) | (with_reducible refine below_drewN ?_ _) | (refine Below.trans ?_ (Below.mono ‹Below _ _ _› (by first | omega | (simp; done) | (simp; omega)))) | exact Below.refl _ _ | omega | (focus (simp; done)) | (focus (simp; omega)))) (Nat.le_refl _)).sl (Nat.le_refl _)).mono ?_
    rintro e w14 ⟨v14, rfl, ho14, hb14⟩
    have hz14 := hb14.size
    (try (simp at hz14))
    go_wp2_with fail
    refine (eqStringS_any g0 g0 N N _ _ _ _ _ _ _ (ho14.below (B := w14.heap.size) (by repeat (first | (with_reducible exact Below.refl _ _) | (with_reducible refine below_ov ?_ ?_) | (with_reducible refine Below.setCell ?_ ?_ _) | (with_reducible refine Below.alloc ?_ ?_ _) | (with_reducible refine Below.drew ?_) | (with_reducible refine below_drewN ?_ _) | (refine Below.trans ?_ (Below.mono ‹Below _ _ _› (by first | omega | (simp; done) | (simp; omega)))) | exact Below.refl _ _ | omega | (focus (simp; done)) | (focus (simp; omega)))) (Nat.le_refl _)).sl (s3.out.below (B := w3.heap.size) (by repeat (first | (with_reducible exact Below.refl _ _) | (with_reducible refine below_ov ?_ ?_) | (with_reducible refine Below.setCell ?_ ?_ _) | (with_reducible refine Below.alloc ?_ ?_ _) | (with_reducible refine Below.drew ?_) | (with_reducible refine below_drewN ?_ _) | (refine Below.trans ?_ (Below.mono ‹Below _ _ _› (by first | omega | (simp; done) | (simp; omega)))) | exact Below.refl _ _ | omega | (focus (simp; done)) | (focus (simp; omega)))) (Nat.le_refl _)).sl (by first | omega | (simp; done) | (simp; omega)) (by first | omega | (simp; done) | (simp; omega)) (by omega) (by omega)).mono ?_
    rintro e w15 ⟨rfl, hb15⟩
    have hz15 := hb15.size
    (try (simp at hz15))
    rw [HI.out]
    go_wp2_with fail
    refine (heldStringS_same 1 N w4.heap.size w5.heap.size _ _ (OM.out.below (B := w5.heap.size) (by repeat (first | (with_reducible exact Below.refl _ _) | (with_reducible refine below_ov ?_ ?_) | (with_reducible refine Below.setCell ?_ ?_ _) | (with_reducible refine Below.alloc ?_ ?_ _) | (with_reducible refine Below.drew ?_) | (with_reducible refine below_drewN ?_ _) | (refine Below.trans ?_ (Below.mono ‹Below _ _ _› (by first | omega | (simp; done) | (simp; omega)))) | exact Below.refl _ _ | omega | (focus (simp; done)) | (focus (simp; omega)))) (Nat.le_refl _)) (by omega) (by omega) (by omega) (by omega)).mono ?_
    rintro e w16 ⟨rfl, hb16⟩
    have hz16 := hb16.size
    go_wp2_with fail
    go_ret
    exact ⟨rfl, (by repeat (first | (with_reducible exact Below.refl _ _) | (with_reducible refine below_ov ?_ ?_) | (with_reducible refine Below.setCell ?_ ?_ _) | (with_reducible refine Below.alloc ?_ ?_ _) | (with_reducible refine Below.drew ?_) | (with_reducible refine below_drewN ?_ _) | (refine Below.trans ?_ (Below.mono ‹Below _ _ _› (by first | omega | (simp; done) | (simp; omega)))) | exact Below.refl _ _ | omega | (focus (simp; done)) | (focus (simp; omega))))⟩

set_option maxRecDepth 100000 in
theorem FnExactDueCrews_lifted (os : Os) (started : os.Started) (H : Type) (enc : TypeId × Value → H) :
    ReturnsInHanded {} Try.checked os 6 .any (Rows.fnExactDueCrewsSpec.pre6 enc Try.prog Try.f6 Rows.fnExactDueCrewsRow.domain false) (Rows.fnExactDueCrewsSpec.post enc Try.prog Try.f6 false true false false) := by
  refine returnsInHanded_of_change_sized (C := Try.checked) Try.own started (by kernel_rfl) Try.func6
    (ChangeSpec.witness6 (enc := enc) (C := Try.checked) false ⟨#[], #[.slice none 0 0, .int .i64 0, .int .i64 0], []⟩ 8 (by kernel_rfl) (by kernel_rfl) (by kernel_rfl) (by kernel_rfl)) ?_
  intro W base args ds gs before hval0 hW _ hsz _
  have hval : ∀ (j : Nat) t v, Try.f6.params[j]? = some t → args[j]? = some v → Value.okWide Try.prog W .any base t v := hval0
  have hW' := hW
  obtain ⟨p, q, hA0, hV, rfl, hfz, hnd⟩ := hW
  have hA : DataW.TrodAll enc Try.prog W 0 (fun _ => true) true Try.f6.params.toList args.toList ds p := hA0
  rw [Try.params6] at hA hval
  obtain ⟨v0, vs0, d0, ds0, p0, q0, hargs, rfl, rfl, h0, r0⟩ := trodAll_cons hA
  obtain ⟨v1, vs1, d1, ds1, p1, q1, rfl, rfl, rfl, h1, r1⟩ := trodAll_cons r0
  obtain ⟨v2, vs2, d2, ds2, p2, q2, rfl, rfl, rfl, h2, r2⟩ := trodAll_cons r1
  obtain ⟨rfl, rfl, rfl⟩ := trodAll_nil r2
  obtain rfl : args = #[v0, v1, v2] := by cases args; simp_all
  obtain ⟨rfl, rfl⟩ := trodVars_none hV
  have hend : ∀ W', Below W.heap.size W W' → Rows.fnExactDueCrewsSpec.post enc Try.prog Try.f6 false true false false W #[v0, v1, v2] (.bool true) W' := fun W' hb =>
    law_post (T := 4) Try.laidOut rfl (by kernel_rfl) rfl Try.underlying4 hW' rfl hb
  clear hW' hA0 hval0
  obtain ⟨A, n, cap, c, a, b, rfl, hk0, hm0, hA0⟩ := openPeriod (hval 0 _ v0 rfl rfl) h0
  obtain ⟨m, rfl, rfl, rfl, wf1⟩ := open_int Try.underlying3 (hval 1 _ v1 rfl rfl) h1
  obtain ⟨q, rfl, rfl, rfl, wf2⟩ := open_int Try.underlying3 (hval 2 _ v2 rfl rfl) h2
  refine (FnExactDueCrews_walk A n cap c a b m q W hk0 hm0 hA0.1 hA0.2).mono fun e W' ⟨he, hb⟩ => ?_
  subst he
  exact ⟨_, rfl, hend W' hb⟩
/-- The statement. -/
theorem FnExactDueCrews_holds : Rows.FnExactDueCrewsSaid :=
  OpenClaim.holds_of_wide 6 Try.f6 rfl rfl rfl rfl rfl rfl rfl ⟨rfl, rfl, rfl, rfl, rfl⟩ rfl rfl rfl rfl rfl (by kernel_rfl) Try.func6 (show joinedFacts Try.prog 6 Try.f6 Rows.fnExactDueCrewsSpec Rows.fnExactDueCrewsRow = true from by unfold joinedFacts; rw [Try.heard, Try.enters, Try.lifts, Try.laidOut, Try.rowed, Try.made]; kernel_rfl)
    (of_decide_eq_true (by kernel_rfl)) (by unfold Func.isWrapper; first | (rw [if_pos (by decide +kernel)]; kernel_rfl) | (rw [if_neg (by decide +kernel)]; exact ⟨rfl, rfl⟩))
    (fun os started H enc _ => FnExactDueCrews_lifted os started H enc)
#print axioms FnExactDueCrews_holds

end Go.Proofs.Ytaijbihjkbpoeaa
