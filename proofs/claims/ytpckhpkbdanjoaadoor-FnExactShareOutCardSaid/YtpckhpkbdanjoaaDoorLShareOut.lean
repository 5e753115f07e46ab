/-
  FnExactShareOut: the law returns true at every input. No condition.
-/
import Derived.Test.YtpckhpkbdanjoaaDoorQ11
import Derived.Test.YtpckhpkbdanjoaaDoorTie
import Derived.Lay
import Derived.LaidMore
import Derived.SevenTiedAt
import Derived.Stop.Joined
namespace Go.Proofs.YtpckhpkbdanjoaaDoor
set_option linter.unusedVariables false
set_option linter.unusedSimpArgs false
open Go.ChangeShapes Go.WideShapes Go.ChangeAt Go.RowKit Go.Joins Go.Deep

theorem Own.only {w w' : World} {lo hi lo' hi' E sz n k : Nat} {v : Value} {c : Nat → Nat → Value} (h : Own w lo' hi' E sz v n k c) (hO : Only lo hi w w') (hd : hi' ≤ lo ∨ hi ≤ lo') (hs : hi' ≤ w.heap.size) : Own w' lo' hi' E sz v n k c :=
  h.keep fun b h1 h2 => hO.block b (by omega) (by omega)
set_option maxRecDepth 100000 in
set_option maxHeartbeats 3200000 in
theorem FnExactShareOut_walk (A : Option Addr) (n cap : Nat) (F : Nat → ByteArray) (B : Option Addr) (m capB : Nat) (p q : Nat → Int) (w : World) (hcap : n ≤ cap) (hmax : cap ≤ maxLen) (hA : SlA w 0 w.heap.size 1 A n (sC F)) (hsz : ∀ i, i < n → (F i).size ≤ maxLen) (hcapB : m ≤ capB) (hmaxB : capB ≤ maxLen) (hB : SlA w 0 w.heap.size 2 B m (iiC p q)) :
    Calls Tryd.prog 5 #[.slice A n cap, .slice B m capB] w fun e w' => e = .returned (.bool true) ∧ Below w.heap.size w w' := by
  unfold maxLen at hmax
  have hS : Sl w 0 w.heap.size 1 (.slice A n cap) n (sC F) := hA.shut hcap
  clear hA
  unfold maxLen at hmaxB
  have hT : Sl w 0 w.heap.size 2 (.slice B m capB) m (iiC p q) := hB.shut hcapB
  clear hB
  cases hd : decide (szPF 1048576 F n < 0) with
  | true =>
    go_enter Tryd.func5, Tryd.ntmps5
    go_wp2_with fail
    refine (szStringS_any F n 1048576 0 w.heap.size _ _ (hS.below (B := w.heap.size) (by repeat (first | (with_reducible exact Below.refl _ _) | (with_reducible refine below_ov ?_ ?_) | (with_reducible refine Below.setCell ?_ ?_ _) | (with_reducible refine Below.alloc ?_ ?_ _) | (with_reducible refine Below.drew ?_) | (with_reducible refine below_drewN ?_ _) | (refine Below.trans ?_ (Below.mono ‹Below _ _ _› (by first | omega | (simp; done) | (simp; omega)))) | exact Below.refl _ _ | omega | (focus (simp; done)) | (focus (simp; omega)))) (Nat.le_refl _)) (by first | omega | (simp; done) | (simp; omega)) (by omega) (by omega) (by omega) hsz).mono ?_
    rintro e w1 ⟨rfl, hb1⟩
    have hz1 := hb1.size
    (try (simp at hz1))
    go_wp2_with fail
    go_ret
    exact ⟨rfl, (by repeat (first | (with_reducible exact Below.refl _ _) | (with_reducible refine below_ov ?_ ?_) | (with_reducible refine Below.setCell ?_ ?_ _) | (with_reducible refine Below.alloc ?_ ?_ _) | (with_reducible refine Below.drew ?_) | (with_reducible refine below_drewN ?_ _) | (refine Below.trans ?_ (Below.mono ‹Below _ _ _› (by first | omega | (simp; done) | (simp; omega)))) | exact Below.refl _ _ | omega | (focus (simp; done)) | (focus (simp; omega))))⟩
  | false =>
    have hd0 := Int.not_lt.1 (of_decide_eq_false hd)
    have hn := szPF_n hd0
    have hf : ffits F n := ⟨by omega, hsz⟩
    have HQF := hide (sL_self F n)
    have hle : szPF 1048576 F n ≤ 1048576 := szPF_le F n
    by_cases hm : szPF 1048576 F n < m
    · have HD2 : Hid (leftF (szPF 1048576 F n) m = -1) := by show _ = _; rw [leftF, if_pos hm]
      go_enter Tryd.func5, Tryd.ntmps5
      go_wp2_with fail
      refine (szStringS_any F n 1048576 0 w.heap.size _ _ (hS.below (B := w.heap.size) (by repeat (first | (with_reducible exact Below.refl _ _) | (with_reducible refine below_ov ?_ ?_) | (with_reducible refine Below.setCell ?_ ?_ _) | (with_reducible refine Below.alloc ?_ ?_ _) | (with_reducible refine Below.drew ?_) | (with_reducible refine below_drewN ?_ _) | (refine Below.trans ?_ (Below.mono ‹Below _ _ _› (by first | omega | (simp; done) | (simp; omega)))) | exact Below.refl _ _ | omega | (focus (simp; done)) | (focus (simp; omega)))) (Nat.le_refl _)) (by first | omega | (simp; done) | (simp; omega)) (by omega) (by omega) (by omega) hsz).mono ?_
      rintro e w1 ⟨rfl, hb1⟩
      have hz1 := hb1.size
      (try (simp at hz1))
      go_wp2_with fail
      refine (szCellS_any B m capB (szPF 1048576 F n) _ (by omega) (by omega) (by omega)).mono ?_
      rintro e w2 ⟨rfl, rfl⟩
      rw [HD2.out]
      go_wp2_with fail
      go_ret
      exact ⟨rfl, (by repeat (first | (with_reducible exact Below.refl _ _) | (with_reducible refine below_ov ?_ ?_) | (with_reducible refine Below.setCell ?_ ?_ _) | (with_reducible refine Below.alloc ?_ ?_ _) | (with_reducible refine Below.drew ?_) | (with_reducible refine below_drewN ?_ _) | (refine Below.trans ?_ (Below.mono ‹Below _ _ _› (by first | omega | (simp; done) | (simp; omega)))) | exact Below.refl _ _ | omega | (focus (simp; done)) | (focus (simp; omega))))⟩
    · have HD2 : Hid (leftF (szPF 1048576 F n) m = szPF 1048576 F n - m) := by show _ = _; rw [leftF, if_neg hm]
      have hd2 : decide (szPF 1048576 F n - (m : Int) < 0) = false := decide_eq_false (by omega)
      have HQcells := hide (iiL_self p q m)
      obtain ⟨N, hN⟩ : ∃ N : Nat, N = shN F n p q m := ⟨_, rfl⟩
      obtain ⟨g0, hg0⟩ : ∃ g0 : Nat → ByteArray, g0 = shT F n p q m := ⟨_, rfl⟩
      have hNn : N ≤ 1048576 := by
        rw [hN]
        exact shN_le
      have HI := hide (sL_self g0 N)
      have RS : ∀ (lo0 hi0 : Nat) (v0 : Value) (lo1 hi1 : Nat) (v1 : Value) (W : World), Sl W lo0 hi0 1 v0 n (sC F) → hi0 ≤ W.heap.size → Sl W lo1 hi1 2 v1 m (iiC p q) → hi1 ≤ W.heap.size → Calls Tryd.prog 23 #[v0, v1] W fun e w' => ∃ v', e = .returned (.tuple #[v', .bool (shOk F n p q m)]) ∧ Own w' W.heap.size w'.heap.size 9 1 v' N N (sC g0) ∧ Below W.heap.size W w' := by
        intro lo0 hi0 v0 lo1 hi1 v1 W h0 h0' h1 h1'
        rw [hN, hg0]
        exact ShareOut_spec F n p q m lo0 hi0 v0 lo1 hi1 v1 W h0 h0' h1 h1' hf
      have RI : ∀ (lo0 hi0 : Nat) (v0 : Value) (lo1 hi1 : Nat) (v1 : Value) (W : World), Sl W lo0 hi0 1 v0 n (sC F) → hi0 ≤ W.heap.size → Sl W lo1 hi1 2 v1 m (iiC p q) → hi1 ≤ W.heap.size → Calls Tryd.prog 24 #[v0, v1] W fun e w' => ∃ v', e = .returned (.tuple #[v', .bool (shOk F n p q m)]) ∧ Own w' W.heap.size w'.heap.size 9 1 v' N N (sC g0) ∧ Below W.heap.size W w' := by
        intro lo0 hi0 v0 lo1 hi1 v1 W h0 h0' h1 h1'
        rw [hN, hg0]
        exact ShareOut_impl F n p q m lo0 hi0 v0 lo1 hi1 v1 W h0 h0' h1 h1' hf
      have HRS := hide RS
      have HRI := hide RI
      clear RS RI hN hg0
      have d9 : decide (1 + (n : Int) + (m : Int) * 2 < 0) = false := decide_eq_false (by omega)
      have d9' : decide (1 + (N : Int) < 0) = false := decide_eq_false (by omega)
      go_enter Tryd.func5, Tryd.ntmps5
      go_wp2_with fail
      refine (szStringS_any F n 1048576 0 w.heap.size _ _ (hS.below (B := w.heap.size) (by repeat (first | (with_reducible exact Below.refl _ _) | (with_reducible refine below_ov ?_ ?_) | (with_reducible refine Below.setCell ?_ ?_ _) | (with_reducible refine Below.alloc ?_ ?_ _) | (with_reducible refine Below.drew ?_) | (with_reducible refine below_drewN ?_ _) | (refine Below.trans ?_ (Below.mono ‹Below _ _ _› (by first | omega | (simp; done) | (simp; omega)))) | exact Below.refl _ _ | omega | (focus (simp; done)) | (focus (simp; omega)))) (Nat.le_refl _)) (by first | omega | (simp; done) | (simp; omega)) (by omega) (by omega) (by omega) hsz).mono ?_
      rintro e w1 ⟨rfl, hb1⟩
      have hz1 := hb1.size
      (try (simp at hz1))
      go_wp2_with fail
      refine (szCellS_any B m capB (szPF 1048576 F n) _ (by omega) (by omega) (by omega)).mono ?_
      rintro e w2 ⟨rfl, rfl⟩
      rw [HD2.out]
      go_wp2_with fail
      refine (toStringS_any F n _ _ _ _ (hS.below (B := w.heap.size) (by repeat (first | (with_reducible exact Below.refl _ _) | (with_reducible refine below_ov ?_ ?_) | (with_reducible refine Below.setCell ?_ ?_ _) | (with_reducible refine Below.alloc ?_ ?_ _) | (with_reducible refine Below.drew ?_) | (with_reducible refine below_drewN ?_ _) | (refine Below.trans ?_ (Below.mono ‹Below _ _ _› (by first | omega | (simp; done) | (simp; omega)))) | exact Below.refl _ _ | omega | (focus (simp; done)) | (focus (simp; omega)))) (Nat.le_refl _)) (by first | omega | (simp; done) | (simp; omega)) hf.1).mono ?_
      rintro e w3 ⟨v3, rfl, ho3, hb3⟩
      have hz3 := hb3.size
      (try (simp at hz3))
      go_wp2_with fail
      refine (toCellS_any p q m _ _ _ _ (hT.below (B := w.heap.size) (by repeat (first | (with_reducible exact Below.refl _ _) | (with_reducible refine below_ov ?_ ?_) | (with_reducible refine Below.setCell ?_ ?_ _) | (with_reducible refine Below.alloc ?_ ?_ _) | (with_reducible refine Below.drew ?_) | (with_reducible refine below_drewN ?_ _) | (refine Below.trans ?_ (Below.mono ‹Below _ _ _› (by first | omega | (simp; done) | (simp; omega)))) | exact Below.refl _ _ | omega | (focus (simp; done)) | (focus (simp; omega)))) (Nat.le_refl _)) (by first | omega | (simp; done) | (simp; omega)) (by omega)).mono ?_
      rintro e w4 ⟨v4, rfl, ho4, hb4⟩
      have hz4 := hb4.size
      (try (simp at hz4))
      go_wp2_with fail
      refine (HRS.out _ _ _ _ _ _ _ (ho3.below (B := w3.heap.size) (by repeat (first | (with_reducible exact Below.refl _ _) | (with_reducible refine below_ov ?_ ?_) | (with_reducible refine Below.setCell ?_ ?_ _) | (with_reducible refine Below.alloc ?_ ?_ _) | (with_reducible refine Below.drew ?_) | (with_reducible refine below_drewN ?_ _) | (refine Below.trans ?_ (Below.mono ‹Below _ _ _› (by first | omega | (simp; done) | (simp; omega)))) | exact Below.refl _ _ | omega | (focus (simp; done)) | (focus (simp; omega)))) (Nat.le_refl _)).sl (by first | omega | (simp; done) | (simp; omega)) (ho4.below (B := w4.heap.size) (by repeat (first | (with_reducible exact Below.refl _ _) | (with_reducible refine below_ov ?_ ?_) | (with_reducible refine Below.setCell ?_ ?_ _) | (with_reducible refine Below.alloc ?_ ?_ _) | (with_reducible refine Below.drew ?_) | (with_reducible refine below_drewN ?_ _) | (refine Below.trans ?_ (Below.mono ‹Below _ _ _› (by first | omega | (simp; done) | (simp; omega)))) | exact Below.refl _ _ | omega | (focus (simp; done)) | (focus (simp; omega)))) (Nat.le_refl _)).sl (by first | omega | (simp; done) | (simp; omega))).mono ?_
      rintro e w5 ⟨v5, rfl, ho5, hb5⟩
      have hz5 := hb5.size
      (try (simp at hz5))
      go_wp2_with fail
      refine (toStringS_any F n _ _ _ _ (hS.below (B := w.heap.size) (by repeat (first | (with_reducible exact Below.refl _ _) | (with_reducible refine below_ov ?_ ?_) | (with_reducible refine Below.setCell ?_ ?_ _) | (with_reducible refine Below.alloc ?_ ?_ _) | (with_reducible refine Below.drew ?_) | (with_reducible refine below_drewN ?_ _) | (refine Below.trans ?_ (Below.mono ‹Below _ _ _› (by first | omega | (simp; done) | (simp; omega)))) | exact Below.refl _ _ | omega | (focus (simp; done)) | (focus (simp; omega)))) (Nat.le_refl _)) (by first | omega | (simp; done) | (simp; omega)) hf.1).mono ?_
      rintro e w6 ⟨v6, rfl, ho6, hb6⟩
      have hz6 := hb6.size
      (try (simp at hz6))
      go_wp2_with fail
      refine (toCellS_any p q m _ _ _ _ (hT.below (B := w.heap.size) (by repeat (first | (with_reducible exact Below.refl _ _) | (with_reducible refine below_ov ?_ ?_) | (with_reducible refine Below.setCell ?_ ?_ _) | (with_reducible refine Below.alloc ?_ ?_ _) | (with_reducible refine Below.drew ?_) | (with_reducible refine below_drewN ?_ _) | (refine Below.trans ?_ (Below.mono ‹Below _ _ _› (by first | omega | (simp; done) | (simp; omega)))) | exact Below.refl _ _ | omega | (focus (simp; done)) | (focus (simp; omega)))) (Nat.le_refl _)) (by first | omega | (simp; done) | (simp; omega)) (by omega)).mono ?_
      rintro e w7 ⟨v7, rfl, ho7, hb7⟩
      have hz7 := hb7.size
      (try (simp at hz7))
      go_wp2_with fail
      refine (HRI.out _ _ _ _ _ _ _ (ho6.below (B := w6.heap.size) (by repeat (first | (with_reducible exact Below.refl _ _) | (with_reducible refine below_ov ?_ ?_) | (with_reducible refine Below.setCell ?_ ?_ _) | (with_reducible refine Below.alloc ?_ ?_ _) | (with_reducible refine Below.drew ?_) | (with_reducible refine below_drewN ?_ _) | (refine Below.trans ?_ (Below.mono ‹Below _ _ _› (by first | omega | (simp; done) | (simp; omega)))) | exact Below.refl _ _ | omega | (focus (simp; done)) | (focus (simp; omega)))) (Nat.le_refl _)).sl (by first | omega | (simp; done) | (simp; omega)) (ho7.below (B := w7.heap.size) (by repeat (first | (with_reducible exact Below.refl _ _) | (with_reducible refine below_ov ?_ ?_) | (with_reducible refine Below.setCell ?_ ?_ _) | (with_reducible refine Below.alloc ?_ ?_ _) | (with_reducible refine Below.drew ?_) | (with_reducible refine below_drewN ?_ _) | (refine Below.trans ?_ (Below.mono ‹Below _ _ _› (by first | omega | (simp; done) | (simp; omega)))) | exact Below.refl _ _ | omega | (focus (simp; done)) | (focus (simp; omega)))) (Nat.le_refl _)).sl (by first | omega | (simp; done) | (simp; omega))).mono ?_
      rintro e w8 ⟨v8, rfl, ho8, hb8⟩
      have hz8 := hb8.size
      (try (simp at hz8))
      go_wp2_with fail
      refine (eqStringS_any g0 g0 N N _ _ _ _ _ _ _ (ho8.below (B := w8.heap.size) (by repeat (first | (with_reducible exact Below.refl _ _) | (with_reducible refine below_ov ?_ ?_) | (with_reducible refine Below.setCell ?_ ?_ _) | (with_reducible refine Below.alloc ?_ ?_ _) | (with_reducible refine Below.drew ?_) | (with_reducible refine below_drewN ?_ _) | (refine Below.trans ?_ (Below.mono ‹Below _ _ _› (by first | omega | (simp; done) | (simp; omega)))) | exact Below.refl _ _ | omega | (focus (simp; done)) | (focus (simp; omega)))) (Nat.le_refl _)).sl (ho5.below (B := w5.heap.size) (by repeat (first | (with_reducible exact Below.refl _ _) | (with_reducible refine below_ov ?_ ?_) | (with_reducible refine Below.setCell ?_ ?_ _) | (with_reducible refine Below.alloc ?_ ?_ _) | (with_reducible refine Below.drew ?_) | (with_reducible refine below_drewN ?_ _) | (refine Below.trans ?_ (Below.mono ‹Below _ _ _› (by first | omega | (simp; done) | (simp; omega)))) | exact Below.refl _ _ | omega | (focus (simp; done)) | (focus (simp; omega)))) (Nat.le_refl _)).sl (by first | omega | (simp; done) | (simp; omega)) (by first | omega | (simp; done) | (simp; omega)) (by omega) (by omega)).mono ?_
      rintro e w9 ⟨rfl, hb9⟩
      have hz9 := hb9.size
      (try (simp at hz9))
      rw [HI.out]
      go_wp2_with fail
      refine (toStringS_any F n _ _ _ _ (hS.below (B := w.heap.size) (by repeat (first | (with_reducible exact Below.refl _ _) | (with_reducible refine below_ov ?_ ?_) | (with_reducible refine Below.setCell ?_ ?_ _) | (with_reducible refine Below.alloc ?_ ?_ _) | (with_reducible refine Below.drew ?_) | (with_reducible refine below_drewN ?_ _) | (refine Below.trans ?_ (Below.mono ‹Below _ _ _› (by first | omega | (simp; done) | (simp; omega)))) | exact Below.refl _ _ | omega | (focus (simp; done)) | (focus (simp; omega)))) (Nat.le_refl _)) (by first | omega | (simp; done) | (simp; omega)) hf.1).mono ?_
      rintro e w10 ⟨v10, rfl, ho10, hb10⟩
      have hz10 := hb10.size
      (try (simp at hz10))
      go_wp2_with fail
      refine (eqStringS_any F F n n _ _ _ _ _ _ _ ((ho6.below (B := w6.heap.size) (by repeat (first | (with_reducible exact Below.refl _ _) | (with_reducible refine below_ov ?_ ?_) | (with_reducible refine Below.setCell ?_ ?_ _) | (with_reducible refine Below.alloc ?_ ?_ _) | (with_reducible refine Below.drew ?_) | (with_reducible refine below_drewN ?_ _) | (refine Below.trans ?_ (Below.mono ‹Below _ _ _› (by first | omega | (simp; done) | (simp; omega)))) | exact Below.refl _ _ | omega | (focus (simp; done)) | (focus (simp; omega)))) (Nat.le_refl _)).sl) ho10.sl (by first | omega | (simp; done) | (simp; omega)) (Nat.le_refl _) (by omega) (by omega)).mono ?_
      rintro e w11 ⟨rfl, hb11⟩
      have hz11 := hb11.size
      (try (simp at hz11))
      rw [HQF.out]
      go_wp2_with fail
      refine (toCellS_any p q m _ _ _ _ (hT.below (B := w.heap.size) (by repeat (first | (with_reducible exact Below.refl _ _) | (with_reducible refine below_ov ?_ ?_) | (with_reducible refine Below.setCell ?_ ?_ _) | (with_reducible refine Below.alloc ?_ ?_ _) | (with_reducible refine Below.drew ?_) | (with_reducible refine below_drewN ?_ _) | (refine Below.trans ?_ (Below.mono ‹Below _ _ _› (by first | omega | (simp; done) | (simp; omega)))) | exact Below.refl _ _ | omega | (focus (simp; done)) | (focus (simp; omega)))) (Nat.le_refl _)) (by first | omega | (simp; done) | (simp; omega)) (by omega)).mono ?_
      rintro e w12 ⟨v12, rfl, ho12, hb12⟩
      have hz12 := hb12.size
      (try (simp at hz12))
      go_wp2_with fail
      refine (eqCellS_any p q p q m m _ _ _ _ _ _ _ ((ho7.below (B := w7.heap.size) (by repeat (first | (with_reducible exact Below.refl _ _) | (with_reducible refine below_ov ?_ ?_) | (with_reducible refine Below.setCell ?_ ?_ _) | (with_reducible refine Below.alloc ?_ ?_ _) | (with_reducible refine Below.drew ?_) | (with_reducible refine below_drewN ?_ _) | (refine Below.trans ?_ (Below.mono ‹Below _ _ _› (by first | omega | (simp; done) | (simp; omega)))) | exact Below.refl _ _ | omega | (focus (simp; done)) | (focus (simp; omega)))) (Nat.le_refl _)).sl) ho12.sl (by first | omega | (simp; done) | (simp; omega)) (Nat.le_refl _) (by omega) (by omega)).mono ?_
      rintro e w13 ⟨rfl, hb13⟩
      have hz13 := hb13.size
      (try (simp at hz13))
      rw [HQcells.out]
      have o6_0 := hide (ho6.below (w' := w13) (B := w6.heap.size) (by repeat (first | (with_reducible exact Below.refl _ _) | (with_reducible refine below_ov ?_ ?_) | (with_reducible refine Below.setCell ?_ ?_ _) | (with_reducible refine Below.alloc ?_ ?_ _) | (with_reducible refine Below.drew ?_) | (with_reducible refine below_drewN ?_ _) | (refine Below.trans ?_ (Below.mono ‹Below _ _ _› (by first | omega | (simp; done) | (simp; omega)))) | exact Below.refl _ _ | omega | (focus (simp; done)) | (focus (simp; omega)))) (Nat.le_refl _))
      have o7_0 := hide (ho7.below (w' := w13) (B := w7.heap.size) (by repeat (first | (with_reducible exact Below.refl _ _) | (with_reducible refine below_ov ?_ ?_) | (with_reducible refine Below.setCell ?_ ?_ _) | (with_reducible refine Below.alloc ?_ ?_ _) | (with_reducible refine Below.drew ?_) | (with_reducible refine below_drewN ?_ _) | (refine Below.trans ?_ (Below.mono ‹Below _ _ _› (by first | omega | (simp; done) | (simp; omega)))) | exact Below.refl _ _ | omega | (focus (simp; done)) | (focus (simp; omega)))) (Nat.le_refl _))
      have o5_0 := hide (ho5.below (w' := w13) (B := w5.heap.size) (by repeat (first | (with_reducible exact Below.refl _ _) | (with_reducible refine below_ov ?_ ?_) | (with_reducible refine Below.setCell ?_ ?_ _) | (with_reducible refine Below.alloc ?_ ?_ _) | (with_reducible refine Below.drew ?_) | (with_reducible refine below_drewN ?_ _) | (refine Below.trans ?_ (Below.mono ‹Below _ _ _› (by first | omega | (simp; done) | (simp; omega)))) | exact Below.refl _ _ | omega | (focus (simp; done)) | (focus (simp; omega)))) (Nat.le_refl _))
      have o8_0 := hide (ho8.below (w' := w13) (B := w8.heap.size) (by repeat (first | (with_reducible exact Below.refl _ _) | (with_reducible refine below_ov ?_ ?_) | (with_reducible refine Below.setCell ?_ ?_ _) | (with_reducible refine Below.alloc ?_ ?_ _) | (with_reducible refine Below.drew ?_) | (with_reducible refine below_drewN ?_ _) | (refine Below.trans ?_ (Below.mono ‹Below _ _ _› (by first | omega | (simp; done) | (simp; omega)))) | exact Below.refl _ _ | omega | (focus (simp; done)) | (focus (simp; omega)))) (Nat.le_refl _))
      go_wp2_with fail
      refine (markStringS_any (1) n w5.heap.size w6.heap.size 0 _ (fun _ => .bool false) _ (o6_0.out.l _) (by omega) (by omega) (by omega) (by omega)).mono ?_
      rintro e w14 ⟨rfl, om14, hO14⟩
      have hz14 := hO14.size
      have hb14 : Below (w.heap.size) w13 w14 := hO14.below (by omega) (by omega)
      have o7_1 := hide (o7_0.out.only hO14 (.inr (by omega)) (by omega))
      have o5_1 := hide (o5_0.out.only hO14 (.inl (by omega)) (by omega))
      have o8_1 := hide (o8_0.out.only hO14 (.inr (by omega)) (by omega))
      clear om14 o6_0 o7_0 o5_0 o8_0
      go_wp2_with fail
      refine (markCellS_any (1 + (n : Int)) m w6.heap.size w7.heap.size 0 _ (fun _ => .bool false) _ (o7_1.out.l _) (by omega) (by omega) (by omega) (by omega)).mono ?_
      rintro e w15 ⟨rfl, om15, hO15⟩
      have hz15 := hO15.size
      have hb15 : Below (w.heap.size) w14 w15 := hO15.below (by omega) (by omega)
      have o5_2 := hide (o5_1.out.only hO15 (.inl (by omega)) (by omega))
      have o8_2 := hide (o8_1.out.only hO15 (.inr (by omega)) (by omega))
      clear om15 o7_1 o5_1 o8_1
      go_wp2_with fail
      refine (eqStringS_any g0 g0 N N _ _ _ _ _ _ _ o8_2.out.sl o5_2.out.sl (by omega) (by omega) (by omega) (by omega)).mono ?_
      rintro e w16 ⟨rfl, hb16⟩
      have hz16 := hb16.size
      rw [HI.out]
      have o5_3 := hide (o5_2.out.below hb16 (by omega))
      have o8_3 := hide (o8_2.out.below hb16 (by omega))
      clear o5_2 o8_2
      go_wp2_with fail
      refine (markStringS_any 1 N w7.heap.size w8.heap.size 0 _ (fun _ => .bool false) _ (o8_3.out.l _) (by omega) (by omega) (by omega) (by omega)).mono ?_
      rintro e w17 ⟨rfl, om, hO17⟩
      have hz17 := hO17.size
      have hb17 : Below (w.heap.size) w16 w17 := hO17.below (by omega) (by omega)
      have s3 := hide (o5_3.out.only hO17 (.inl (by omega)) (by omega))
      have OM := hide om
      clear o5_3 o8_3 om
      go_wp2_with fail
      refine (heldStringS_same 1 N w7.heap.size w8.heap.size _ _ OM.out (by omega) (by omega) (by omega) (by omega)).mono ?_
      rintro e w18 ⟨rfl, hb18⟩
      have hz18 := hb18.size
      go_wp2_with fail
      refine (toStringS_any F n _ _ _ _ (hS.below (B := w.heap.size) (by repeat (first | (with_reducible exact Below.refl _ _) | (with_reducible refine below_ov ?_ ?_) | (with_reducible refine Below.setCell ?_ ?_ _) | (with_reducible refine Below.alloc ?_ ?_ _) | (with_reducible refine Below.drew ?_) | (with_reducible refine below_drewN ?_ _) | (refine Below.trans ?_ (Below.mono ‹Below _ _ _› (by first | omega | (simp; done) | (simp; omega)))) | exact Below.refl _ _ | omega | (focus (simp; done)) | (focus (simp; omega)))) (Nat.le_refl _)) (by first | omega | (simp; done) | (simp; omega)) hf.1).mono ?_
      rintro e w19 ⟨v19, rfl, ho19, hb19⟩
      have hz19 := hb19.size
      (try (simp at hz19))
      go_wp2_with fail
      refine (toCellS_any p q m _ _ _ _ (hT.below (B := w.heap.size) (by repeat (first | (with_reducible exact Below.refl _ _) | (with_reducible refine below_ov ?_ ?_) | (with_reducible refine Below.setCell ?_ ?_ _) | (with_reducible refine Below.alloc ?_ ?_ _) | (with_reducible refine Below.drew ?_) | (with_reducible refine below_drewN ?_ _) | (refine Below.trans ?_ (Below.mono ‹Below _ _ _› (by first | omega | (simp; done) | (simp; omega)))) | exact Below.refl _ _ | omega | (focus (simp; done)) | (focus (simp; omega)))) (Nat.le_refl _)) (by first | omega | (simp; done) | (simp; omega)) (by omega)).mono ?_
      rintro e w20 ⟨v20, rfl, ho20, hb20⟩
      have hz20 := hb20.size
      (try (simp at hz20))
      go_wp2_with fail
      refine (HRI.out _ _ _ _ _ _ _ (ho19.below (B := w19.heap.size) (by repeat (first | (with_reducible exact Below.refl _ _) | (with_reducible refine below_ov ?_ ?_) | (with_reducible refine Below.setCell ?_ ?_ _) | (with_reducible refine Below.alloc ?_ ?_ _) | (with_reducible refine Below.drew ?_) | (with_reducible refine below_drewN ?_ _) | (refine Below.trans ?_ (Below.mono ‹Below _ _ _› (by first | omega | (simp; done) | (simp; omega)))) | exact Below.refl _ _ | omega | (focus (simp; done)) | (focus (simp; omega)))) (Nat.le_refl _)).sl (by first | omega | (simp; done) | (simp; omega)) (ho20.below (B := w20.heap.size) (by repeat (first | (with_reducible exact Below.refl _ _) | (with_reducible refine below_ov ?_ ?_) | (with_reducible refine Below.setCell ?_ ?_ _) | (with_reducible refine Below.alloc ?_ ?_ _) | (with_reducible refine Below.drew ?_) | (with_reducible refine below_drewN ?_ _) | (refine Below.trans ?_ (Below.mono ‹Below _ _ _› (by first | omega | (simp; done) | (simp; omega)))) | exact Below.refl _ _ | omega | (focus (simp; done)) | (focus (simp; omega)))) (Nat.le_refl _)).sl (by first | omega | (simp; done) | (simp; omega))).mono ?_
      rintro e w21 ⟨v21, rfl, ho21, hb21⟩
      have hz21 := hb21.size
      (try (simp at hz21))
      go_wp2_with fail
      refine (eqStringS_any g0 g0 N N _ _ _ _ _ _ _ (ho21.below (B := w21.heap.size) (by repeat (first | (with_reducible exact Below.refl _ _) | (with_reducible refine below_ov ?_ ?_) | (with_reducible refine Below.setCell ?_ ?_ _) | (with_reducible refine Below.alloc ?_ ?_ _) | (with_reducible refine Below.drew ?_) | (with_reducible refine below_drewN ?_ _) | (refine Below.trans ?_ (Below.mono ‹Below _ _ _› (by first | omega | (simp; done) | (simp; omega)))) | exact Below.refl _ _ | omega | (focus (simp; done)) | (focus (simp; omega)))) (Nat.le_refl _)).sl (s3.out.below (B := w5.heap.size) (by repeat (first | (with_reducible exact Below.refl _ _) | (with_reducible refine below_ov ?_ ?_) | (with_reducible refine Below.setCell ?_ ?_ _) | (with_reducible refine Below.alloc ?_ ?_ _) | (with_reducible refine Below.drew ?_) | (with_reducible refine below_drewN ?_ _) | (refine Below.trans ?_ (Below.mono ‹Below _ _ _› (by first | omega | (simp; done) | (simp; omega)))) | exact Below.refl _ _ | omega | (focus (simp; done)) | (focus (simp; omega)))) (Nat.le_refl _)).sl (by first | omega | (simp; done) | (simp; omega)) (by first | omega | (simp; done) | (simp; omega)) (by omega) (by omega)).mono ?_
      rintro e w22 ⟨rfl, hb22⟩
      have hz22 := hb22.size
      (try (simp at hz22))
      rw [HI.out]
      go_wp2_with fail
      refine (heldStringS_same 1 N w7.heap.size w8.heap.size _ _ (OM.out.below (B := w8.heap.size) (by repeat (first | (with_reducible exact Below.refl _ _) | (with_reducible refine below_ov ?_ ?_) | (with_reducible refine Below.setCell ?_ ?_ _) | (with_reducible refine Below.alloc ?_ ?_ _) | (with_reducible refine Below.drew ?_) | (with_reducible refine below_drewN ?_ _) | (refine Below.trans ?_ (Below.mono ‹Below _ _ _› (by first | omega | (simp; done) | (simp; omega)))) | exact Below.refl _ _ | omega | (focus (simp; done)) | (focus (simp; omega)))) (Nat.le_refl _)) (by omega) (by omega) (by omega) (by omega)).mono ?_
      rintro e w23 ⟨rfl, hb23⟩
      have hz23 := hb23.size
      go_wp2_with fail
      go_ret
      exact ⟨rfl, (by repeat (first | (with_reducible exact Below.refl _ _) | (with_reducible refine below_ov ?_ ?_) | (with_reducible refine Below.setCell ?_ ?_ _) | (with_reducible refine Below.alloc ?_ ?_ _) | (with_reducible refine Below.drew ?_) | (with_reducible refine below_drewN ?_ _) | (refine Below.trans ?_ (Below.mono ‹Below _ _ _› (by first | omega | (simp; done) | (simp; omega)))) | exact Below.refl _ _ | omega | (focus (simp; done)) | (focus (simp; omega))))⟩

set_option maxRecDepth 100000 in
theorem FnExactShareOut_lifted (os : Os) (started : os.Started) (H : Type) (enc : TypeId × Value → H) :
    ReturnsInHanded {} Tryd.checked os 5 .any (fun w args => (Rows.fnExactShareOutSpec.pre enc Tryd.prog Tryd.f5 Rows.fnExactShareOutRow.domain false w args ∧ laidMetH Tryd.prog Rows.fnExactShareOutRow.laid w) ∧ sizedMet enc Tryd.prog Tryd.f5 (OpenSpec.ofChange Rows.fnExactShareOutSpec) false w args) (Rows.fnExactShareOutSpec.post enc Tryd.prog Tryd.f5 false true false false) := by
  refine returnsInHanded_of_change_and (C := Tryd.checked) (X := fun w _ => laidMetH Tryd.prog Rows.fnExactShareOutRow.laid w) (fun _ _ _ hh h => h.of_heap hh) Tryd.own started (by kernel_rfl) Tryd.func5
    (ChangeSpec.witness_shaped (enc := enc) (C := Tryd.checked) (os := os) (X := fun w _ => laidMetH Tryd.prog Rows.fnExactShareOutRow.laid w) false (World.laidAll Tryd.prog os Rows.fnExactShareOutRow.laid) #[.slice none 0 0, .slice none 0 0] 8 (World.laidAll_os _ _ _)
      (World.shaped_of_ZipB (by kernel_rfl) (by kernel_rfl)) (by kernel_rfl) (by kernel_rfl) (by kernel_rfl)
      (by rw [MakeChecks.laidMetH_plain _ _ _ (by kernel_rfl)]; exact laidMet_laidAll _ (by kernel_rfl) (by kernel_rfl))) ?_
  intro W base args ds gs before hval0 hW _ hsz hL _
  have hval : ∀ (j : Nat) t v, Tryd.f5.params[j]? = some t → args[j]? = some v → Value.okWide Tryd.prog W .any base t v := hval0
  have hW' := hW
  obtain ⟨p, q, hA0, hV, rfl, hfz, hnd⟩ := hW
  have hA : DataW.TrodAll enc Tryd.prog W 0 (fun _ => true) true Tryd.f5.params.toList args.toList ds p := hA0
  rw [Tryd.params5] at hA hval
  obtain ⟨v0, vs0, d0, ds0, p0, q0, hargs, rfl, rfl, h0, r0⟩ := trodAll_cons hA
  obtain ⟨v1, vs1, d1, ds1, p1, q1, rfl, rfl, rfl, h1, r1⟩ := trodAll_cons r0
  obtain ⟨rfl, rfl, rfl⟩ := trodAll_nil r1
  obtain rfl : args = #[v0, v1] := by cases args; simp_all
  obtain ⟨rfl, rfl⟩ := trodVars_none hV
  have hend : ∀ W', Below W.heap.size W W' → Rows.fnExactShareOutSpec.post enc Tryd.prog Tryd.f5 false true false false W #[v0, v1] (.bool true) W' := fun W' hb =>
    law_post (T := 4) Tryd.laidOut rfl (by kernel_rfl) rfl Tryd.underlying4 hW' rfl hb
  clear hW' hA0 hval0
  obtain ⟨A, n, cap, F, rfl, hk0, hm0, hA0⟩ := openString (hval 0 _ v0 rfl rfl) h0
  obtain ⟨B, m, capB, p, q, rfl, hk1, hm1, hA1⟩ := openCell (hval 1 _ v1 rfl rfl) h1
  refine (FnExactShareOut_walk A n cap F B m capB p q W hk0 hm0 hA0.1 hA0.2 hk1 hm1 hA1).mono fun e W' ⟨he, hb⟩ => ?_
  subst he
  exact ⟨_, rfl, hend W' hb⟩
/-- The statement. -/
theorem FnExactShareOut_holds : Rows.FnExactShareOutSaid :=
  OpenClaim.holds_of_wide 5 Tryd.f5 rfl rfl rfl rfl rfl rfl rfl ⟨rfl, rfl, rfl, rfl, rfl⟩ rfl rfl rfl rfl rfl (by kernel_rfl) Tryd.func5 (show joinedFacts Tryd.prog 5 Tryd.f5 Rows.fnExactShareOutSpec Rows.fnExactShareOutRow = true from by unfold joinedFacts; rw [Tryd.heard, Tryd.enters, Tryd.lifts, Tryd.laidOut, Tryd.rowed, Tryd.made]; kernel_rfl)
    (of_decide_eq_true (by kernel_rfl)) (by unfold Func.isWrapper; first | (rw [if_pos (by decide +kernel)]; kernel_rfl) | (rw [if_neg (by decide +kernel)]; exact ⟨rfl, rfl⟩))
    (fun os started H enc _ => FnExactShareOut_lifted os started H enc)
#print axioms FnExactShareOut_holds
/-- The tied card. -/
theorem FnExactShareOut_card : Rows.FnExactShareOutCardSaid :=
  Claim7.holds_tied_plain_at .later [] [.data, .pinned] true (true, "9bc3415960b78502ef8bbbaf3fc61dd07d7d66dca491c55dd25d91170ccba87f") false FnExactShareOut_holds (fun _ h => by cases h) (by kernel_rfl) (fun _ h => by cases h) fnExactShareOut_row_tie rfl ⟨rfl, rfl⟩ Tryd.mainIs0 rfl
    (fun f fn hf hfn => by
      obtain rfl : f = 5 := Option.some.inj ((show Tryd.prog.funcNamed "loop.example/g01020/laws.FnExactShareOut" = some 5 by kernel_rfl).symm.trans hf) |>.symm
      obtain rfl : fn = Tryd.f5 := (Option.some.inj (Tryd.func5.symm.trans hfn)).symm
      exact ⟨Tryd.looks0, fun j t ht => by
        have hall : (Tryd.f5.params.toList.all fun u => !Tryd.prog.wantsStandIn u) = true := by kernel_rfl
        have hm : t ∈ Tryd.f5.params.toList := by simpa using Array.mem_of_getElem? ht
        exact (show Tryd.prog.wantsStandIn t = false by simpa using List.all_eq_true.1 hall t hm)⟩)
    (by kernel_rfl)
#print axioms FnExactShareOut_card

end Go.Proofs.YtpckhpkbdanjoaaDoor
