/-
  Texts of this proof, one behind the other (part 13).
-/
import Derived.Test.YtpckhpkbdanjoaaDoorQ12
import Derived.OpenShut
import Derived.Carry
import Derived.SizedLaws
import Derived.Lib.SmallJoins
import Derived.Deep.Slices
import Derived.Deep.Fields
import Derived.ChangeMaps5
/-
  Walks: the reference's draw of a way that is followed (printed by gen_drwi.py).-/
namespace Go.Proofs.YtpckhpkbdanjoaaDoor
set_option linter.unusedVariables false
set_option linter.unusedSimpArgs false
open Go.RowKit

set_option maxRecDepth 100000 in
set_option maxHeartbeats 6400000 in
theorem DrawFollowWay_any (v : Value) (w : World) (h : Code w v) :
    Calls Tryd.prog 35 #[v] w fun e w' => ∃ (u : Value) (n : Nat) (F : Nat → ByteArray) (x y : Int) (s : ByteArray), e = .returned (.tuple #[u, .agg #[.int .i64 x, .int .i64 y], .string s]) ∧ s.size ≤ 300 ∧ Sl w' w.heap.size w'.heap.size 1 u n (sC F) ∧ ffits F n ∧ Below w.heap.size w w' := by
  obtain ⟨A, n, cap, rfl⟩ := h.form
  have C0 : Cu ((w.alloc (.cells #[.int .i64 0, .int .i64 0] 38)).alloc (.cells #[.slice A n cap, .int .i64 0, .int .u64 0] 90)) (w.heap.size + 1) 0 := by
    have := Cu.start (h.below ((Below.refl _ _).alloc (Nat.le_refl _) (.cells #[.int .i64 0, .int .i64 0] 38)) (Nat.le_refl _)) 90
    simpa using this
  have R0 : BxI ((w.alloc (.cells #[.int .i64 0, .int .i64 0] 38)).alloc (.cells #[.slice A n cap, .int .i64 0, .int .u64 0] 90)) w.heap.size 0 0 := (BxI.new w 0 0 _).alloc _
  have O0 : Only (w.heap.size + 1) (w.heap.size + 1 + 1) w ((w.alloc (.cells #[.int .i64 0, .int .i64 0] 38)).alloc (.cells #[.slice A n cap, .int .i64 0, .int .u64 0] 90)) := ((Only.refl _ _ w).alloc _).alloc _
  go_enter Tryd.func35, Tryd.ntmps35
  go_wp2_with fail
  refine (floor_any _ _ _ C0 (by omega)).mono ?_
  rintro e w1 ⟨u, rfl, n', hs1, hn', C1, hO1⟩
  obtain ⟨F, hF1, hFs⟩ := hs1.sl
  have hff : ffits F n' := ⟨by omega, fun i hi => by have := hFs i hi; unfold maxLen; omega⟩
  clear hs1
  have hz1 := hO1.size
  simp at hz1
  have R1 := R0.only hO1 (by omega)
  have O1 := O0.trans hO1
  clear R0 O0 C0 hO1
  obtain ⟨hi, hhi⟩ : ∃ hi, hi = w1.heap.size := ⟨_, rfl⟩
  have HF1 : Hid (Sl w1 (w.heap.size + 1 + 1) hi 1 u n' (sC F)) := by rw [hhi]; exact hF1.mono (by simp) (Nat.le_refl _)
  have hhi1 : hi ≤ w1.heap.size := by omega
  have hlo1 : w.heap.size + 1 + 1 ≤ hi := by omega
  clear hF1 hhi
  obtain ⟨Au, cu, rfl, _, _⟩ := id HF1.out.open_
  go_wp2_with fail
  refine (cellOf_any F n' (w.heap.size + 1 + 1) hi _ _ _ _ C1 (by omega) HF1.out (by omega) (by omega) hff).mono ?_
  rintro e w2 ⟨x, y, rfl, C2, hO2⟩
  have R2 := R1.only hO2 (by omega)
  have HF2 : Hid (Sl w2 (w.heap.size + 1 + 1) hi 1 (.slice Au n' cu) n' (sC F)) := HF1.out.onlyF hO2 (by omega) (by omega)
  have O2 := O1.trans hO2
  have hz2 := hO2.size
  clear R1 O1 C1 HF1 hO2
  go_wp2_with fail
  obtain ⟨b7, hb7⟩ : ∃ b7, b7 = w2.heap.size := ⟨_, rfl⟩
  obtain ⟨w3, hw3⟩ : ∃ W, W = w2.alloc (.cells #[.int .i64 x, .int .i64 y] 38) := ⟨_, rfl⟩
  have S3 : BxI w3 b7 x y := by rw [hw3, hb7]; exact BxI.new _ _ _ _
  have hb3 : Below w2.heap.size w2 w3 := by rw [hw3]; exact (Below.refl _ _).alloc (Nat.le_refl _) _
  rw [← hw3, ← hb7]
  have hl7 : b7 < w3.heap.size := S3.lt
  have hg7 : w.heap.size + 1 < b7 := by omega
  clear hw3 hb7
  have R3 := R2.keep (hb3.block _ R2.lt) hb3.size
  have HF3 : Hid (Sl w3 (w.heap.size + 1 + 1) hi 1 (.slice Au n' cu) n' (sC F)) := HF2.out.below hb3 (by omega)
  have O3 := O2.then_below hb3
  have C3 := C2.below hb3 (Nat.le_refl _)
  have hz3 := hb3.size
  clear R2 O2 C2 HF2 hb3
  refine (cellOf_any F n' (w.heap.size + 1 + 1) hi _ _ _ _ C3 (by omega) HF3.out (by omega) (by omega) hff).mono ?_
  rintro e w4 ⟨p, q, rfl, C4, hO4⟩
  have R4 := R3.only hO4 (by omega)
  have S4 := S3.only hO4 (by omega)
  have HF4 : Hid (Sl w4 (w.heap.size + 1 + 1) hi 1 (.slice Au n' cu) n' (sC F)) := HF3.out.onlyF hO4 (by omega) (by omega)
  have O4 := O3.trans hO4
  have hz4 := hO4.size
  clear R3 S3 O3 C3 HF3 hO4
  obtain ⟨s0, s1, sf, sl⟩ := id S4
  go_wp2_with fail
  clear s0 s1 sf sl
  obtain ⟨b8, hb8⟩ : ∃ b8, b8 = w4.heap.size := ⟨_, rfl⟩
  obtain ⟨w5, hw5⟩ : ∃ W, W = w4.alloc (.cells #[.int .i64 p, .int .i64 q] 38) := ⟨_, rfl⟩
  have T5 : BxI w5 b8 p q := by rw [hw5, hb8]; exact BxI.new _ _ _ _
  have hb5 : Below w4.heap.size w4 w5 := by rw [hw5]; exact (Below.refl _ _).alloc (Nat.le_refl _) _
  rw [← hw5, ← hb8]
  have hl8 : b8 < w5.heap.size := T5.lt
  have hg8 : w.heap.size + 1 < b8 := by omega
  clear hw5 hb8
  have R5 := R4.keep (hb5.block _ R4.lt) hb5.size
  have S5 := S4.keep (hb5.block _ S4.lt) hb5.size
  have HF5 : Hid (Sl w5 (w.heap.size + 1 + 1) hi 1 (.slice Au n' cu) n' (sC F)) := HF4.out.below hb5 (by omega)
  have O5 := O4.then_below hb5
  have C5 := C4.below hb5 (Nat.le_refl _)
  have hz5 := hb5.size
  clear R4 S4 O4 C4 HF4 hb5
  refine (seAsked_any F n' x y (w.heap.size + 1 + 1) hi _ _ HF5.out (by omega) hff).mono ?_
  rintro e w6 ⟨rfl, hb6⟩
  have R6 := R5.keep (hb6.block _ R5.lt) hb6.size
  have S6 := S5.keep (hb6.block _ S5.lt) hb6.size
  have T6 := T5.keep (hb6.block _ T5.lt) hb6.size
  have HF6 : Hid (Sl w6 (w.heap.size + 1 + 1) hi 1 (.slice Au n' cu) n' (sC F)) := HF5.out.below hb6 (by omega)
  have O6 := O5.then_below hb6
  have C6 := C5.below hb6 (Nat.le_refl _)
  have hz6 := hb6.size
  clear R5 S5 T5 O5 C5 HF5 hb6
  cases e1 : sfOk F n' x y with
  | false =>
    go_wp2_with fail
    refine (pick_any _ _ _ _ C6 (by omega)).mono ?_
    rintro e w30 ⟨v30, rfl, hv30, C30, hO30⟩
    have R30 := R6.only hO30 (by omega)
    have S30 := S6.only hO30 (by omega)
    have T30 := T6.only hO30 (by omega)
    have HF30 : Hid (Sl w30 (w.heap.size + 1 + 1) hi 1 (.slice Au n' cu) n' (sC F)) := HF6.out.onlyF hO30 (by omega) (by omega)
    have O30 := O6.trans hO30
    have hz30 := hO30.size
    clear R6 S6 T6 O6 C6 HF6 hO30
    go_wp2_with fail
    refine (one_any _ _ _ _ C30 (by omega)).mono ?_
    rintro e w31 ⟨b31, rfl, C31, hO31⟩
    have R31 := R30.only hO31 (by omega)
    have S31 := S30.only hO31 (by omega)
    have T31 := T30.only hO31 (by omega)
    have HF31 : Hid (Sl w31 (w.heap.size + 1 + 1) hi 1 (.slice Au n' cu) n' (sC F)) := HF30.out.onlyF hO31 (by omega) (by omega)
    have O31 := O30.trans hO31
    have hz31 := hO31.size
    clear R30 S30 T30 O30 C30 HF30 hO31
    cases b31 with
    | true =>
      go_wp2_with fail
      refine (pick_any _ _ _ _ C31 (by omega)).mono ?_
      rintro e w32 ⟨v32, rfl, hv32, C32, hO32⟩
      have R32 := R31.only hO32 (by omega)
      have S32 := S31.only hO32 (by omega)
      have T32 := T31.only hO32 (by omega)
      have HF32 : Hid (Sl w32 (w.heap.size + 1 + 1) hi 1 (.slice Au n' cu) n' (sC F)) := HF31.out.onlyF hO32 (by omega) (by omega)
      have O32 := O31.trans hO32
      have hz32 := hO32.size
      clear R31 S31 T31 O31 C31 HF31 hO32
      have z200 : IntKind.i64.wrap (200 + v32) = 200 + v32 := IntWalk.i64_in _ (by omega)
      have hnn : 0 ≤ (200 + v32) ∧ (200 + v32) ≤ 201 := by omega
      go_wp2_with fail
      go_loopg [11] 205 (fun gn sv wr => ∃ s : ByteArray, sv = .string s ∧ (s.size : Int) ≤ (200 + v32) + 1 ∧ (200 + v32).toNat - s.size < gn ∧ BxI wr w.heap.size 0 0 ∧ BxI wr b7 x y ∧ BxI wr b8 p q ∧ Cu wr (w.heap.size + 1) (2000 + 2 * s.size) ∧ Only (w.heap.size + 1) (w.heap.size + 1 + 1) w wr ∧ w32.heap.size ≤ wr.heap.size ∧ Hid (Sl wr (w.heap.size + 1 + 1) hi 1 (.slice Au n' cu) n' (sC F)))
      case atStart => exact ⟨⟨#[]⟩, rfl, by simp [ByteArray.size]; omega, by simp [ByteArray.size]; omega, R32, S32, T32, C32.more (by omega), O32, Nat.le_refl _, HF32.out⟩
      case round =>
        clear R32 S32 T32 C32
        obtain ⟨s, rfl, hs, hgn, R50, S50, T50, C50, O50, hzz, HF50⟩ := hrel
        have hz50 := O50.size
        by_cases hsn : (s.size : Int) < (200 + v32)
        · go_wp2_with fail
          refine (of_new _ _ _ _ _ _ _ C50 (by first | (with_reducible rfl) | simp) (by omega) (by rfl) (by decide) (by decide) (by simp [isS])).mono ?_
          rintro e w51 ⟨v51, rfl, hM51, C51, hO51⟩
          have hz51 := hO51.size
          simp at hM51
          have hs5 : 1 ≤ v51.size ∧ v51.size ≤ 2 := by rcases hM51 with rfl | rfl | rfl | rfl | rfl | rfl <;> decide
          have hsx : (s ++ v51).size = s.size + v51.size := ByteArray.size_append
          have R51 := R50.only hO51 (by omega)
          have S51 := S50.only hO51 (by omega)
          have T51 := T50.only hO51 (by omega)
          have O51 := O50.trans hO51
          have HF51 : Hid (Sl w51 (w.heap.size + 1 + 1) hi 1 (.slice Au n' cu) n' (sC F)) := HF50.out.onlyF hO51 (by omega) (by omega)
          clear R50 S50 T50 C50 O50 hO51 hM51 HF50
          go_wp2_with fail
          go_roundg ((200 + v32).toNat - s.size)
          case measure => omega
          case rel => exact ⟨s ++ v51, rfl, by omega, by omega, R51, S51, T51, C51.more (by omega), O51, by omega, HF51.out⟩
        · have hs202 : s.size ≤ 202 := by omega
          go_wp2_with fail
          refine (one_any _ _ _ _ C50 (by omega)).mono ?_
          rintro e w52 ⟨b52, rfl, C52, hO52⟩
          have R52 := R50.only hO52 (by omega)
          have S52 := S50.only hO52 (by omega)
          have T52 := T50.only hO52 (by omega)
          have HF52 : Hid (Sl w52 (w.heap.size + 1 + 1) hi 1 (.slice Au n' cu) n' (sC F)) := HF50.out.onlyF hO52 (by omega) (by omega)
          have O52 := O50.trans hO52
          have hz52 := hO52.size
          clear R50 S50 T50 O50 C50 HF50 hO52
          cases b52 with
          | true =>
            have hsx : (s ++ ⟨#[120]⟩ : ByteArray).size ≤ 203 := by rw [ByteArray.size_append]; show s.size + 1 ≤ 203; omega
            obtain ⟨r0, r1, rf, rl⟩ := R52
            obtain ⟨s0, s1, sf, sl⟩ := S52
            have hb : Below w.heap.size w w52 := O52.below (by omega) (Nat.le_refl _)
            have hir : hi ≤ w52.heap.size := by omega
            clear O52 C52 T52
            go_wp2_with fail
            go_region
            all_goals go_wp2_with fail
            all_goals exact bodyPost_ret (v := .tuple #[.slice Au n' cu, .agg #[.int .i64 x, .int .i64 y], .string (s ++ ⟨#[120]⟩)]) (by simp [results, Tryd.results35, go_sem, *]) rfl ⟨_, _, F, _, _, _, rfl, (by omega), (sl_set (sl_set HF52.out (by simp; try omega) _) (by simp; try omega) _).mono (by omega) (by simp [World.setCell]; try omega), hff, (by repeat (first | (with_reducible exact Below.refl _ _) | (with_reducible refine below_ov ?_ ?_) | (with_reducible refine Below.setCell ?_ ?_ _) | (with_reducible refine Below.alloc ?_ ?_ _) | (with_reducible refine Below.drew ?_) | (with_reducible refine below_drewN ?_ _) | (refine Below.trans ?_ (Below.mono ‹Below _ _ _› (by first | omega | (simp; done) | (simp; omega)))) | exact Below.refl _ _ | omega | (focus (simp; done)) | (focus (simp; omega))))⟩
          | false =>
            obtain ⟨r0, r1, rf, rl⟩ := R52
            obtain ⟨s0, s1, sf, sl⟩ := S52
            have hb : Below w.heap.size w w52 := O52.below (by omega) (Nat.le_refl _)
            have hir : hi ≤ w52.heap.size := by omega
            clear O52 C52 T52
            go_wp2_with fail
            go_region
            all_goals go_wp2_with fail
            all_goals exact bodyPost_ret (v := .tuple #[.slice Au n' cu, .agg #[.int .i64 x, .int .i64 y], .string s]) (by simp [results, Tryd.results35, go_sem, *]) rfl ⟨_, _, F, _, _, _, rfl, (by omega), (sl_set (sl_set HF52.out (by simp; try omega) _) (by simp; try omega) _).mono (by omega) (by simp [World.setCell]; try omega), hff, (by repeat (first | (with_reducible exact Below.refl _ _) | (with_reducible refine below_ov ?_ ?_) | (with_reducible refine Below.setCell ?_ ?_ _) | (with_reducible refine Below.alloc ?_ ?_ _) | (with_reducible refine Below.drew ?_) | (with_reducible refine below_drewN ?_ _) | (refine Below.trans ?_ (Below.mono ‹Below _ _ _› (by first | omega | (simp; done) | (simp; omega)))) | exact Below.refl _ _ | omega | (focus (simp; done)) | (focus (simp; omega))))⟩
    | false =>
      have hnn : 0 ≤ v30 ∧ v30 ≤ 201 := by omega
      go_wp2_with fail
      go_loopg [11] 205 (fun gn sv wr => ∃ s : ByteArray, sv = .string s ∧ (s.size : Int) ≤ v30 + 1 ∧ v30.toNat - s.size < gn ∧ BxI wr w.heap.size 0 0 ∧ BxI wr b7 x y ∧ BxI wr b8 p q ∧ Cu wr (w.heap.size + 1) (2000 + 2 * s.size) ∧ Only (w.heap.size + 1) (w.heap.size + 1 + 1) w wr ∧ w31.heap.size ≤ wr.heap.size ∧ Hid (Sl wr (w.heap.size + 1 + 1) hi 1 (.slice Au n' cu) n' (sC F)))
      case atStart => exact ⟨⟨#[]⟩, rfl, by simp [ByteArray.size]; omega, by simp [ByteArray.size]; omega, R31, S31, T31, C31.more (by omega), O31, Nat.le_refl _, HF31.out⟩
      case round =>
        clear R31 S31 T31 C31
        obtain ⟨s, rfl, hs, hgn, R50, S50, T50, C50, O50, hzz, HF50⟩ := hrel
        have hz50 := O50.size
        by_cases hsn : (s.size : Int) < v30
        · go_wp2_with fail
          refine (of_new _ _ _ _ _ _ _ C50 (by first | (with_reducible rfl) | simp) (by omega) (by rfl) (by decide) (by decide) (by simp [isS])).mono ?_
          rintro e w51 ⟨v51, rfl, hM51, C51, hO51⟩
          have hz51 := hO51.size
          simp at hM51
          have hs5 : 1 ≤ v51.size ∧ v51.size ≤ 2 := by rcases hM51 with rfl | rfl | rfl | rfl | rfl | rfl <;> decide
          have hsx : (s ++ v51).size = s.size + v51.size := ByteArray.size_append
          have R51 := R50.only hO51 (by omega)
          have S51 := S50.only hO51 (by omega)
          have T51 := T50.only hO51 (by omega)
          have O51 := O50.trans hO51
          have HF51 : Hid (Sl w51 (w.heap.size + 1 + 1) hi 1 (.slice Au n' cu) n' (sC F)) := HF50.out.onlyF hO51 (by omega) (by omega)
          clear R50 S50 T50 C50 O50 hO51 hM51 HF50
          go_wp2_with fail
          go_roundg (v30.toNat - s.size)
          case measure => omega
          case rel => exact ⟨s ++ v51, rfl, by omega, by omega, R51, S51, T51, C51.more (by omega), O51, by omega, HF51.out⟩
        · have hs202 : s.size ≤ 202 := by omega
          go_wp2_with fail
          refine (one_any _ _ _ _ C50 (by omega)).mono ?_
          rintro e w52 ⟨b52, rfl, C52, hO52⟩
          have R52 := R50.only hO52 (by omega)
          have S52 := S50.only hO52 (by omega)
          have T52 := T50.only hO52 (by omega)
          have HF52 : Hid (Sl w52 (w.heap.size + 1 + 1) hi 1 (.slice Au n' cu) n' (sC F)) := HF50.out.onlyF hO52 (by omega) (by omega)
          have O52 := O50.trans hO52
          have hz52 := hO52.size
          clear R50 S50 T50 O50 C50 HF50 hO52
          cases b52 with
          | true =>
            have hsx : (s ++ ⟨#[120]⟩ : ByteArray).size ≤ 203 := by rw [ByteArray.size_append]; show s.size + 1 ≤ 203; omega
            obtain ⟨r0, r1, rf, rl⟩ := R52
            obtain ⟨s0, s1, sf, sl⟩ := S52
            have hb : Below w.heap.size w w52 := O52.below (by omega) (Nat.le_refl _)
            have hir : hi ≤ w52.heap.size := by omega
            clear O52 C52 T52
            go_wp2_with fail
            go_region
            all_goals go_wp2_with fail
            all_goals exact bodyPost_ret (v := .tuple #[.slice Au n' cu, .agg #[.int .i64 x, .int .i64 y], .string (s ++ ⟨#[120]⟩)]) (by simp [results, Tryd.results35, go_sem, *]) rfl ⟨_, _, F, _, _, _, rfl, (by omega), (sl_set (sl_set HF52.out (by simp; try omega) _) (by simp; try omega) _).mono (by omega) (by simp [World.setCell]; try omega), hff, (by repeat (first | (with_reducible exact Below.refl _ _) | (with_reducible refine below_ov ?_ ?_) | (with_reducible refine Below.setCell ?_ ?_ _) | (with_reducible refine Below.alloc ?_ ?_ _) | (with_reducible refine Below.drew ?_) | (with_reducible refine below_drewN ?_ _) | (refine Below.trans ?_ (Below.mono ‹Below _ _ _› (by first | omega | (simp; done) | (simp; omega)))) | exact Below.refl _ _ | omega | (focus (simp; done)) | (focus (simp; omega))))⟩
          | false =>
            obtain ⟨r0, r1, rf, rl⟩ := R52
            obtain ⟨s0, s1, sf, sl⟩ := S52
            have hb : Below w.heap.size w w52 := O52.below (by omega) (Nat.le_refl _)
            have hir : hi ≤ w52.heap.size := by omega
            clear O52 C52 T52
            go_wp2_with fail
            go_region
            all_goals go_wp2_with fail
            all_goals exact bodyPost_ret (v := .tuple #[.slice Au n' cu, .agg #[.int .i64 x, .int .i64 y], .string s]) (by simp [results, Tryd.results35, go_sem, *]) rfl ⟨_, _, F, _, _, _, rfl, (by omega), (sl_set (sl_set HF52.out (by simp; try omega) _) (by simp; try omega) _).mono (by omega) (by simp [World.setCell]; try omega), hff, (by repeat (first | (with_reducible exact Below.refl _ _) | (with_reducible refine below_ov ?_ ?_) | (with_reducible refine Below.setCell ?_ ?_ _) | (with_reducible refine Below.alloc ?_ ?_ _) | (with_reducible refine Below.drew ?_) | (with_reducible refine below_drewN ?_ _) | (refine Below.trans ?_ (Below.mono ‹Below _ _ _› (by first | omega | (simp; done) | (simp; omega)))) | exact Below.refl _ _ | omega | (focus (simp; done)) | (focus (simp; omega))))⟩
  | true =>
    have hfl : flB F n' = true := by simp only [sfOk, Bool.and_eq_true] at e1; exact e1.1
    obtain ⟨t0, t1, tf, tl⟩ := id T6
    go_wp2_with fail
    refine (seOpen_any F n' p q (w.heap.size + 1 + 1) hi _ _ HF6.out (by omega) hfl).mono ?_
    rintro e w7 ⟨rfl, hb7'⟩
    have hb7 := hb7'
    clear hb7' t0 t1 tf tl
    have R7 := R6.keep (hb7.block _ R6.lt) hb7.size
    have S7 := S6.keep (hb7.block _ S6.lt) hb7.size
    have T7 := T6.keep (hb7.block _ T6.lt) hb7.size
    have HF7 : Hid (Sl w7 (w.heap.size + 1 + 1) hi 1 (.slice Au n' cu) n' (sC F)) := HF6.out.below hb7 (by omega)
    have O7 := O6.then_below hb7
    have C7 := C6.below hb7 (Nat.le_refl _)
    have hz7 := hb7.size
    clear R6 S6 T6 O6 C6 HF6 hb7
    cases e2 : opB F n' p q with
    | false =>
      go_wp2_with fail
      refine (pick_any _ _ _ _ C7 (by omega)).mono ?_
      rintro e w30 ⟨v30, rfl, hv30, C30, hO30⟩
      have R30 := R7.only hO30 (by omega)
      have S30 := S7.only hO30 (by omega)
      have T30 := T7.only hO30 (by omega)
      have HF30 : Hid (Sl w30 (w.heap.size + 1 + 1) hi 1 (.slice Au n' cu) n' (sC F)) := HF7.out.onlyF hO30 (by omega) (by omega)
      have O30 := O7.trans hO30
      have hz30 := hO30.size
      clear R7 S7 T7 O7 C7 HF7 hO30
      go_wp2_with fail
      refine (one_any _ _ _ _ C30 (by omega)).mono ?_
      rintro e w31 ⟨b31, rfl, C31, hO31⟩
      have R31 := R30.only hO31 (by omega)
      have S31 := S30.only hO31 (by omega)
      have T31 := T30.only hO31 (by omega)
      have HF31 : Hid (Sl w31 (w.heap.size + 1 + 1) hi 1 (.slice Au n' cu) n' (sC F)) := HF30.out.onlyF hO31 (by omega) (by omega)
      have O31 := O30.trans hO31
      have hz31 := hO31.size
      clear R30 S30 T30 O30 C30 HF30 hO31
      cases b31 with
      | true =>
        go_wp2_with fail
        refine (pick_any _ _ _ _ C31 (by omega)).mono ?_
        rintro e w32 ⟨v32, rfl, hv32, C32, hO32⟩
        have R32 := R31.only hO32 (by omega)
        have S32 := S31.only hO32 (by omega)
        have T32 := T31.only hO32 (by omega)
        have HF32 : Hid (Sl w32 (w.heap.size + 1 + 1) hi 1 (.slice Au n' cu) n' (sC F)) := HF31.out.onlyF hO32 (by omega) (by omega)
        have O32 := O31.trans hO32
        have hz32 := hO32.size
        clear R31 S31 T31 O31 C31 HF31 hO32
        have z200 : IntKind.i64.wrap (200 + v32) = 200 + v32 := IntWalk.i64_in _ (by omega)
        have hnn : 0 ≤ (200 + v32) ∧ (200 + v32) ≤ 201 := by omega
        go_wp2_with fail
        go_loopg [11] 205 (fun gn sv wr => ∃ s : ByteArray, sv = .string s ∧ (s.size : Int) ≤ (200 + v32) + 1 ∧ (200 + v32).toNat - s.size < gn ∧ BxI wr w.heap.size 0 0 ∧ BxI wr b7 x y ∧ BxI wr b8 p q ∧ Cu wr (w.heap.size + 1) (2000 + 2 * s.size) ∧ Only (w.heap.size + 1) (w.heap.size + 1 + 1) w wr ∧ w32.heap.size ≤ wr.heap.size ∧ Hid (Sl wr (w.heap.size + 1 + 1) hi 1 (.slice Au n' cu) n' (sC F)))
        case atStart => exact ⟨⟨#[]⟩, rfl, by simp [ByteArray.size]; omega, by simp [ByteArray.size]; omega, R32, S32, T32, C32.more (by omega), O32, Nat.le_refl _, HF32.out⟩
        case round =>
          clear R32 S32 T32 C32
          obtain ⟨s, rfl, hs, hgn, R50, S50, T50, C50, O50, hzz, HF50⟩ := hrel
          have hz50 := O50.size
          by_cases hsn : (s.size : Int) < (200 + v32)
          · go_wp2_with fail
            refine (of_new _ _ _ _ _ _ _ C50 (by first | (with_reducible rfl) | simp) (by omega) (by rfl) (by decide) (by decide) (by simp [isS])).mono ?_
            rintro e w51 ⟨v51, rfl, hM51, C51, hO51⟩
            have hz51 := hO51.size
            simp at hM51
            have hs5 : 1 ≤ v51.size ∧ v51.size ≤ 2 := by rcases hM51 with rfl | rfl | rfl | rfl | rfl | rfl <;> decide
            have hsx : (s ++ v51).size = s.size + v51.size := ByteArray.size_append
            have R51 := R50.only hO51 (by omega)
            have S51 := S50.only hO51 (by omega)
            have T51 := T50.only hO51 (by omega)
            have O51 := O50.trans hO51
            have HF51 : Hid (Sl w51 (w.heap.size + 1 + 1) hi 1 (.slice Au n' cu) n' (sC F)) := HF50.out.onlyF hO51 (by omega) (by omega)
            clear R50 S50 T50 C50 O50 hO51 hM51 HF50
            go_wp2_with fail
            go_roundg ((200 + v32).toNat - s.size)
            case measure => omega
            case rel => exact ⟨s ++ v51, rfl, by omega, by omega, R51, S51, T51, C51.more (by omega), O51, by omega, HF51.out⟩
          · have hs202 : s.size ≤ 202 := by omega
            go_wp2_with fail
            refine (one_any _ _ _ _ C50 (by omega)).mono ?_
            rintro e w52 ⟨b52, rfl, C52, hO52⟩
            have R52 := R50.only hO52 (by omega)
            have S52 := S50.only hO52 (by omega)
            have T52 := T50.only hO52 (by omega)
            have HF52 : Hid (Sl w52 (w.heap.size + 1 + 1) hi 1 (.slice Au n' cu) n' (sC F)) := HF50.out.onlyF hO52 (by omega) (by omega)
            have O52 := O50.trans hO52
            have hz52 := hO52.size
            clear R50 S50 T50 O50 C50 HF50 hO52
            cases b52 with
            | true =>
              have hsx : (s ++ ⟨#[120]⟩ : ByteArray).size ≤ 203 := by rw [ByteArray.size_append]; show s.size + 1 ≤ 203; omega
              obtain ⟨r0, r1, rf, rl⟩ := R52
              obtain ⟨s0, s1, sf, sl⟩ := S52
              have hb : Below w.heap.size w w52 := O52.below (by omega) (Nat.le_refl _)
              have hir : hi ≤ w52.heap.size := by omega
              clear O52 C52 T52
              go_wp2_with fail
              go_region
              all_goals go_wp2_with fail
              all_goals exact bodyPost_ret (v := .tuple #[.slice Au n' cu, .agg #[.int .i64 x, .int .i64 y], .string (s ++ ⟨#[120]⟩)]) (by simp [results, Tryd.results35, go_sem, *]) rfl ⟨_, _, F, _, _, _, rfl, (by omega), (sl_set (sl_set HF52.out (by simp; try omega) _) (by simp; try omega) _).mono (by omega) (by simp [World.setCell]; try omega), hff, (by repeat (first | (with_reducible exact Below.refl _ _) | (with_reducible refine below_ov ?_ ?_) | (with_reducible refine Below.setCell ?_ ?_ _) | (with_reducible refine Below.alloc ?_ ?_ _) | (with_reducible refine Below.drew ?_) | (with_reducible refine below_drewN ?_ _) | (refine Below.trans ?_ (Below.mono ‹Below _ _ _› (by first | omega | (simp; done) | (simp; omega)))) | exact Below.refl _ _ | omega | (focus (simp; done)) | (focus (simp; omega))))⟩
            | false =>
              obtain ⟨r0, r1, rf, rl⟩ := R52
              obtain ⟨s0, s1, sf, sl⟩ := S52
              have hb : Below w.heap.size w w52 := O52.below (by omega) (Nat.le_refl _)
              have hir : hi ≤ w52.heap.size := by omega
              clear O52 C52 T52
              go_wp2_with fail
              go_region
              all_goals go_wp2_with fail
              all_goals exact bodyPost_ret (v := .tuple #[.slice Au n' cu, .agg #[.int .i64 x, .int .i64 y], .string s]) (by simp [results, Tryd.results35, go_sem, *]) rfl ⟨_, _, F, _, _, _, rfl, (by omega), (sl_set (sl_set HF52.out (by simp; try omega) _) (by simp; try omega) _).mono (by omega) (by simp [World.setCell]; try omega), hff, (by repeat (first | (with_reducible exact Below.refl _ _) | (with_reducible refine below_ov ?_ ?_) | (with_reducible refine Below.setCell ?_ ?_ _) | (with_reducible refine Below.alloc ?_ ?_ _) | (with_reducible refine Below.drew ?_) | (with_reducible refine below_drewN ?_ _) | (refine Below.trans ?_ (Below.mono ‹Below _ _ _› (by first | omega | (simp; done) | (simp; omega)))) | exact Below.refl _ _ | omega | (focus (simp; done)) | (focus (simp; omega))))⟩
      | false =>
        have hnn : 0 ≤ v30 ∧ v30 ≤ 201 := by omega
        go_wp2_with fail
        go_loopg [11] 205 (fun gn sv wr => ∃ s : ByteArray, sv = .string s ∧ (s.size : Int) ≤ v30 + 1 ∧ v30.toNat - s.size < gn ∧ BxI wr w.heap.size 0 0 ∧ BxI wr b7 x y ∧ BxI wr b8 p q ∧ Cu wr (w.heap.size + 1) (2000 + 2 * s.size) ∧ Only (w.heap.size + 1) (w.heap.size + 1 + 1) w wr ∧ w31.heap.size ≤ wr.heap.size ∧ Hid (Sl wr (w.heap.size + 1 + 1) hi 1 (.slice Au n' cu) n' (sC F)))
        case atStart => exact ⟨⟨#[]⟩, rfl, by simp [ByteArray.size]; omega, by simp [ByteArray.size]; omega, R31, S31, T31, C31.more (by omega), O31, Nat.le_refl _, HF31.out⟩
        case round =>
          clear R31 S31 T31 C31
          obtain ⟨s, rfl, hs, hgn, R50, S50, T50, C50, O50, hzz, HF50⟩ := hrel
          have hz50 := O50.size
          by_cases hsn : (s.size : Int) < v30
          · go_wp2_with fail
            refine (of_new _ _ _ _ _ _ _ C50 (by first | (with_reducible rfl) | simp) (by omega) (by rfl) (by decide) (by decide) (by simp [isS])).mono ?_
            rintro e w51 ⟨v51, rfl, hM51, C51, hO51⟩
            have hz51 := hO51.size
            simp at hM51
            have hs5 : 1 ≤ v51.size ∧ v51.size ≤ 2 := by rcases hM51 with rfl | rfl | rfl | rfl | rfl | rfl <;> decide
            have hsx : (s ++ v51).size = s.size + v51.size := ByteArray.size_append
            have R51 := R50.only hO51 (by omega)
            have S51 := S50.only hO51 (by omega)
            have T51 := T50.only hO51 (by omega)
            have O51 := O50.trans hO51
            have HF51 : Hid (Sl w51 (w.heap.size + 1 + 1) hi 1 (.slice Au n' cu) n' (sC F)) := HF50.out.onlyF hO51 (by omega) (by omega)
            clear R50 S50 T50 C50 O50 hO51 hM51 HF50
            go_wp2_with fail
            go_roundg (v30.toNat - s.size)
            case measure => omega
            case rel => exact ⟨s ++ v51, rfl, by omega, by omega, R51, S51, T51, C51.more (by omega), O51, by omega, HF51.out⟩
          · have hs202 : s.size ≤ 202 := by omega
            go_wp2_with fail
            refine (one_any _ _ _ _ C50 (by omega)).mono ?_
            rintro e w52 ⟨b52, rfl, C52, hO52⟩
            have R52 := R50.only hO52 (by omega)
            have S52 := S50.only hO52 (by omega)
            have T52 := T50.only hO52 (by omega)
            have HF52 : Hid (Sl w52 (w.heap.size + 1 + 1) hi 1 (.slice Au n' cu) n' (sC F)) := HF50.out.onlyF hO52 (by omega) (by omega)
            have O52 := O50.trans hO52
            have hz52 := hO52.size
            clear R50 S50 T50 O50 C50 HF50 hO52
            cases b52 with
            | true =>
              have hsx : (s ++ ⟨#[120]⟩ : ByteArray).size ≤ 203 := by rw [ByteArray.size_append]; show s.size + 1 ≤ 203; omega
              obtain ⟨r0, r1, rf, rl⟩ := R52
              obtain ⟨s0, s1, sf, sl⟩ := S52
              have hb : Below w.heap.size w w52 := O52.below (by omega) (Nat.le_refl _)
              have hir : hi ≤ w52.heap.size := by omega
              clear O52 C52 T52
              go_wp2_with fail
              go_region
              all_goals go_wp2_with fail
              all_goals exact bodyPost_ret (v := .tuple #[.slice Au n' cu, .agg #[.int .i64 x, .int .i64 y], .string (s ++ ⟨#[120]⟩)]) (by simp [results, Tryd.results35, go_sem, *]) rfl ⟨_, _, F, _, _, _, rfl, (by omega), (sl_set (sl_set HF52.out (by simp; try omega) _) (by simp; try omega) _).mono (by omega) (by simp [World.setCell]; try omega), hff, (by repeat (first | (with_reducible exact Below.refl _ _) | (with_reducible refine below_ov ?_ ?_) | (with_reducible refine Below.setCell ?_ ?_ _) | (with_reducible refine Below.alloc ?_ ?_ _) | (with_reducible refine Below.drew ?_) | (with_reducible refine below_drewN ?_ _) | (refine Below.trans ?_ (Below.mono ‹Below _ _ _› (by first | omega | (simp; done) | (simp; omega)))) | exact Below.refl _ _ | omega | (focus (simp; done)) | (focus (simp; omega))))⟩
            | false =>
              obtain ⟨r0, r1, rf, rl⟩ := R52
              obtain ⟨s0, s1, sf, sl⟩ := S52
              have hb : Below w.heap.size w w52 := O52.below (by omega) (Nat.le_refl _)
              have hir : hi ≤ w52.heap.size := by omega
              clear O52 C52 T52
              go_wp2_with fail
              go_region
              all_goals go_wp2_with fail
              all_goals exact bodyPost_ret (v := .tuple #[.slice Au n' cu, .agg #[.int .i64 x, .int .i64 y], .string s]) (by simp [results, Tryd.results35, go_sem, *]) rfl ⟨_, _, F, _, _, _, rfl, (by omega), (sl_set (sl_set HF52.out (by simp; try omega) _) (by simp; try omega) _).mono (by omega) (by simp [World.setCell]; try omega), hff, (by repeat (first | (with_reducible exact Below.refl _ _) | (with_reducible refine below_ov ?_ ?_) | (with_reducible refine Below.setCell ?_ ?_ _) | (with_reducible refine Below.alloc ?_ ?_ _) | (with_reducible refine Below.drew ?_) | (with_reducible refine below_drewN ?_ _) | (refine Below.trans ?_ (Below.mono ‹Below _ _ _› (by first | omega | (simp; done) | (simp; omega)))) | exact Below.refl _ _ | omega | (focus (simp; done)) | (focus (simp; omega))))⟩
    | true =>
      go_wp2_with fail
      refine (one_any _ _ _ _ C7 (by omega)).mono ?_
      rintro e w8 ⟨b8b, rfl, C8, hO8⟩
      have R8 := R7.only hO8 (by omega)
      have S8 := S7.only hO8 (by omega)
      have T8 := T7.only hO8 (by omega)
      have HF8 : Hid (Sl w8 (w.heap.size + 1 + 1) hi 1 (.slice Au n' cu) n' (sC F)) := HF7.out.onlyF hO8 (by omega) (by omega)
      have O8 := O7.trans hO8
      have hz8 := hO8.size
      clear R7 S7 T7 O7 C7 HF7 hO8
      cases b8b with
      | false =>
        go_wp2_with fail
        refine (pick_any _ _ _ _ C8 (by omega)).mono ?_
        rintro e w30 ⟨v30, rfl, hv30, C30, hO30⟩
        have R30 := R8.only hO30 (by omega)
        have S30 := S8.only hO30 (by omega)
        have T30 := T8.only hO30 (by omega)
        have HF30 : Hid (Sl w30 (w.heap.size + 1 + 1) hi 1 (.slice Au n' cu) n' (sC F)) := HF8.out.onlyF hO30 (by omega) (by omega)
        have O30 := O8.trans hO30
        have hz30 := hO30.size
        clear R8 S8 T8 O8 C8 HF8 hO30
        go_wp2_with fail
        refine (one_any _ _ _ _ C30 (by omega)).mono ?_
        rintro e w31 ⟨b31, rfl, C31, hO31⟩
        have R31 := R30.only hO31 (by omega)
        have S31 := S30.only hO31 (by omega)
        have T31 := T30.only hO31 (by omega)
        have HF31 : Hid (Sl w31 (w.heap.size + 1 + 1) hi 1 (.slice Au n' cu) n' (sC F)) := HF30.out.onlyF hO31 (by omega) (by omega)
        have O31 := O30.trans hO31
        have hz31 := hO31.size
        clear R30 S30 T30 O30 C30 HF30 hO31
        cases b31 with
        | true =>
          go_wp2_with fail
          refine (pick_any _ _ _ _ C31 (by omega)).mono ?_
          rintro e w32 ⟨v32, rfl, hv32, C32, hO32⟩
          have R32 := R31.only hO32 (by omega)
          have S32 := S31.only hO32 (by omega)
          have T32 := T31.only hO32 (by omega)
          have HF32 : Hid (Sl w32 (w.heap.size + 1 + 1) hi 1 (.slice Au n' cu) n' (sC F)) := HF31.out.onlyF hO32 (by omega) (by omega)
          have O32 := O31.trans hO32
          have hz32 := hO32.size
          clear R31 S31 T31 O31 C31 HF31 hO32
          have z200 : IntKind.i64.wrap (200 + v32) = 200 + v32 := IntWalk.i64_in _ (by omega)
          have hnn : 0 ≤ (200 + v32) ∧ (200 + v32) ≤ 201 := by omega
          go_wp2_with fail
          go_loopg [11] 205 (fun gn sv wr => ∃ s : ByteArray, sv = .string s ∧ (s.size : Int) ≤ (200 + v32) + 1 ∧ (200 + v32).toNat - s.size < gn ∧ BxI wr w.heap.size 0 0 ∧ BxI wr b7 x y ∧ BxI wr b8 p q ∧ Cu wr (w.heap.size + 1) (2000 + 2 * s.size) ∧ Only (w.heap.size + 1) (w.heap.size + 1 + 1) w wr ∧ w32.heap.size ≤ wr.heap.size ∧ Hid (Sl wr (w.heap.size + 1 + 1) hi 1 (.slice Au n' cu) n' (sC F)))
          case atStart => exact ⟨⟨#[]⟩, rfl, by simp [ByteArray.size]; omega, by simp [ByteArray.size]; omega, R32, S32, T32, C32.more (by omega), O32, Nat.le_refl _, HF32.out⟩
          case round =>
            clear R32 S32 T32 C32
            obtain ⟨s, rfl, hs, hgn, R50, S50, T50, C50, O50, hzz, HF50⟩ := hrel
            have hz50 := O50.size
            by_cases hsn : (s.size : Int) < (200 + v32)
            · go_wp2_with fail
              refine (of_new _ _ _ _ _ _ _ C50 (by first | (with_reducible rfl) | simp) (by omega) (by rfl) (by decide) (by decide) (by simp [isS])).mono ?_
              rintro e w51 ⟨v51, rfl, hM51, C51, hO51⟩
              have hz51 := hO51.size
              simp at hM51
              have hs5 : 1 ≤ v51.size ∧ v51.size ≤ 2 := by rcases hM51 with rfl | rfl | rfl | rfl | rfl | rfl <;> decide
              have hsx : (s ++ v51).size = s.size + v51.size := ByteArray.size_append
              have R51 := R50.only hO51 (by omega)
              have S51 := S50.only hO51 (by omega)
              have T51 := T50.only hO51 (by omega)
              have O51 := O50.trans hO51
              have HF51 : Hid (Sl w51 (w.heap.size + 1 + 1) hi 1 (.slice Au n' cu) n' (sC F)) := HF50.out.onlyF hO51 (by omega) (by omega)
              clear R50 S50 T50 C50 O50 hO51 hM51 HF50
              go_wp2_with fail
              go_roundg ((200 + v32).toNat - s.size)
              case measure => omega
              case rel => exact ⟨s ++ v51, rfl, by omega, by omega, R51, S51, T51, C51.more (by omega), O51, by omega, HF51.out⟩
            · have hs202 : s.size ≤ 202 := by omega
              go_wp2_with fail
              refine (one_any _ _ _ _ C50 (by omega)).mono ?_
              rintro e w52 ⟨b52, rfl, C52, hO52⟩
              have R52 := R50.only hO52 (by omega)
              have S52 := S50.only hO52 (by omega)
              have T52 := T50.only hO52 (by omega)
              have HF52 : Hid (Sl w52 (w.heap.size + 1 + 1) hi 1 (.slice Au n' cu) n' (sC F)) := HF50.out.onlyF hO52 (by omega) (by omega)
              have O52 := O50.trans hO52
              have hz52 := hO52.size
              clear R50 S50 T50 O50 C50 HF50 hO52
              cases b52 with
              | true =>
                have hsx : (s ++ ⟨#[120]⟩ : ByteArray).size ≤ 203 := by rw [ByteArray.size_append]; show s.size + 1 ≤ 203; omega
                obtain ⟨r0, r1, rf, rl⟩ := R52
                obtain ⟨s0, s1, sf, sl⟩ := S52
                have hb : Below w.heap.size w w52 := O52.below (by omega) (Nat.le_refl _)
                have hir : hi ≤ w52.heap.size := by omega
                clear O52 C52 T52
                go_wp2_with fail
                go_region
                all_goals go_wp2_with fail
                all_goals exact bodyPost_ret (v := .tuple #[.slice Au n' cu, .agg #[.int .i64 x, .int .i64 y], .string (s ++ ⟨#[120]⟩)]) (by simp [results, Tryd.results35, go_sem, *]) rfl ⟨_, _, F, _, _, _, rfl, (by omega), (sl_set (sl_set HF52.out (by simp; try omega) _) (by simp; try omega) _).mono (by omega) (by simp [World.setCell]; try omega), hff, (by repeat (first | (with_reducible exact Below.refl _ _) | (with_reducible refine below_ov ?_ ?_) | (with_reducible refine Below.setCell ?_ ?_ _) | (with_reducible refine Below.alloc ?_ ?_ _) | (with_reducible refine Below.drew ?_) | (with_reducible refine below_drewN ?_ _) | (refine Below.trans ?_ (Below.mono ‹Below _ _ _› (by first | omega | (simp; done) | (simp; omega)))) | exact Below.refl _ _ | omega | (focus (simp; done)) | (focus (simp; omega))))⟩
              | false =>
                obtain ⟨r0, r1, rf, rl⟩ := R52
                obtain ⟨s0, s1, sf, sl⟩ := S52
                have hb : Below w.heap.size w w52 := O52.below (by omega) (Nat.le_refl _)
                have hir : hi ≤ w52.heap.size := by omega
                clear O52 C52 T52
                go_wp2_with fail
                go_region
                all_goals go_wp2_with fail
                all_goals exact bodyPost_ret (v := .tuple #[.slice Au n' cu, .agg #[.int .i64 x, .int .i64 y], .string s]) (by simp [results, Tryd.results35, go_sem, *]) rfl ⟨_, _, F, _, _, _, rfl, (by omega), (sl_set (sl_set HF52.out (by simp; try omega) _) (by simp; try omega) _).mono (by omega) (by simp [World.setCell]; try omega), hff, (by repeat (first | (with_reducible exact Below.refl _ _) | (with_reducible refine below_ov ?_ ?_) | (with_reducible refine Below.setCell ?_ ?_ _) | (with_reducible refine Below.alloc ?_ ?_ _) | (with_reducible refine Below.drew ?_) | (with_reducible refine below_drewN ?_ _) | (refine Below.trans ?_ (Below.mono ‹Below _ _ _› (by first | omega | (simp; done) | (simp; omega)))) | exact Below.refl _ _ | omega | (focus (simp; done)) | (focus (simp; omega))))⟩
        | false =>
          have hnn : 0 ≤ v30 ∧ v30 ≤ 201 := by omega
          go_wp2_with fail
          go_loopg [11] 205 (fun gn sv wr => ∃ s : ByteArray, sv = .string s ∧ (s.size : Int) ≤ v30 + 1 ∧ v30.toNat - s.size < gn ∧ BxI wr w.heap.size 0 0 ∧ BxI wr b7 x y ∧ BxI wr b8 p q ∧ Cu wr (w.heap.size + 1) (2000 + 2 * s.size) ∧ Only (w.heap.size + 1) (w.heap.size + 1 + 1) w wr ∧ w31.heap.size ≤ wr.heap.size ∧ Hid (Sl wr (w.heap.size + 1 + 1) hi 1 (.slice Au n' cu) n' (sC F)))
          case atStart => exact ⟨⟨#[]⟩, rfl, by simp [ByteArray.size]; omega, by simp [ByteArray.size]; omega, R31, S31, T31, C31.more (by omega), O31, Nat.le_refl _, HF31.out⟩
          case round =>
            clear R31 S31 T31 C31
            obtain ⟨s, rfl, hs, hgn, R50, S50, T50, C50, O50, hzz, HF50⟩ := hrel
            have hz50 := O50.size
            by_cases hsn : (s.size : Int) < v30
            · go_wp2_with fail
              refine (of_new _ _ _ _ _ _ _ C50 (by first | (with_reducible rfl) | simp) (by omega) (by rfl) (by decide) (by decide) (by simp [isS])).mono ?_
              rintro e w51 ⟨v51, rfl, hM51, C51, hO51⟩
              have hz51 := hO51.size
              simp at hM51
              have hs5 : 1 ≤ v51.size ∧ v51.size ≤ 2 := by rcases hM51 with rfl | rfl | rfl | rfl | rfl | rfl <;> decide
              have hsx : (s ++ v51).size = s.size + v51.size := ByteArray.size_append
              have R51 := R50.only hO51 (by omega)
              have S51 := S50.only hO51 (by omega)
              have T51 := T50.only hO51 (by omega)
              have O51 := O50.trans hO51
              have HF51 : Hid (Sl w51 (w.heap.size + 1 + 1) hi 1 (.slice Au n' cu) n' (sC F)) := HF50.out.onlyF hO51 (by omega) (by omega)
              clear R50 S50 T50 C50 O50 hO51 hM51 HF50
              go_wp2_with fail
              go_roundg (v30.toNat - s.size)
              case measure => omega
              case rel => exact ⟨s ++ v51, rfl, by omega, by omega, R51, S51, T51, C51.more (by omega), O51, by omega, HF51.out⟩
            · have hs202 : s.size ≤ 202 := by omega
              go_wp2_with fail
              refine (one_any _ _ _ _ C50 (by omega)).mono ?_
              rintro e w52 ⟨b52, rfl, C52, hO52⟩
              have R52 := R50.only hO52 (by omega)
              have S52 := S50.only hO52 (by omega)
              have T52 := T50.only hO52 (by omega)
              have HF52 : Hid (Sl w52 (w.heap.size + 1 + 1) hi 1 (.slice Au n' cu) n' (sC F)) := HF50.out.onlyF hO52 (by omega) (by omega)
              have O52 := O50.trans hO52
              have hz52 := hO52.size
              clear R50 S50 T50 O50 C50 HF50 hO52
              cases b52 with
              | true =>
                have hsx : (s ++ ⟨#[120]⟩ : ByteArray).size ≤ 203 := by rw [ByteArray.size_append]; show s.size + 1 ≤ 203; omega
                obtain ⟨r0, r1, rf, rl⟩ := R52
                obtain ⟨s0, s1, sf, sl⟩ := S52
                have hb : Below w.heap.size w w52 := O52.below (by omega) (Nat.le_refl _)
                have hir : hi ≤ w52.heap.size := by omega
                clear O52 C52 T52
                go_wp2_with fail
                go_region
                all_goals go_wp2_with fail
                all_goals exact bodyPost_ret (v := .tuple #[.slice Au n' cu, .agg #[.int .i64 x, .int .i64 y], .string (s ++ ⟨#[120]⟩)]) (by simp [results, Tryd.results35, go_sem, *]) rfl ⟨_, _, F, _, _, _, rfl, (by omega), (sl_set (sl_set HF52.out (by simp; try omega) _) (by simp; try omega) _).mono (by omega) (by simp [World.setCell]; try omega), hff, (by repeat (first | (with_reducible exact Below.refl _ _) | (with_reducible refine below_ov ?_ ?_) | (with_reducible refine Below.setCell ?_ ?_ _) | (with_reducible refine Below.alloc ?_ ?_ _) | (with_reducible refine Below.drew ?_) | (with_reducible refine below_drewN ?_ _) | (refine Below.trans ?_ (Below.mono ‹Below _ _ _› (by first | omega | (simp; done) | (simp; omega)))) | exact Below.refl _ _ | omega | (focus (simp; done)) | (focus (simp; omega))))⟩
              | false =>
                obtain ⟨r0, r1, rf, rl⟩ := R52
                obtain ⟨s0, s1, sf, sl⟩ := S52
                have hb : Below w.heap.size w w52 := O52.below (by omega) (Nat.le_refl _)
                have hir : hi ≤ w52.heap.size := by omega
                clear O52 C52 T52
                go_wp2_with fail
                go_region
                all_goals go_wp2_with fail
                all_goals exact bodyPost_ret (v := .tuple #[.slice Au n' cu, .agg #[.int .i64 x, .int .i64 y], .string s]) (by simp [results, Tryd.results35, go_sem, *]) rfl ⟨_, _, F, _, _, _, rfl, (by omega), (sl_set (sl_set HF52.out (by simp; try omega) _) (by simp; try omega) _).mono (by omega) (by simp [World.setCell]; try omega), hff, (by repeat (first | (with_reducible exact Below.refl _ _) | (with_reducible refine below_ov ?_ ?_) | (with_reducible refine Below.setCell ?_ ?_ _) | (with_reducible refine Below.alloc ?_ ?_ _) | (with_reducible refine Below.drew ?_) | (with_reducible refine below_drewN ?_ _) | (refine Below.trans ?_ (Below.mono ‹Below _ _ _› (by first | omega | (simp; done) | (simp; omega)))) | exact Below.refl _ _ | omega | (focus (simp; done)) | (focus (simp; omega))))⟩
      | true =>
        obtain ⟨t0, t1, tf, tl⟩ := id T8
        obtain ⟨s0, s1, sf, sl⟩ := id S8
        go_wp2_with fail
        refine (seWay_any F n' x y p q (w.heap.size + 1 + 1) hi _ _ HF8.out (by omega) e1 e2).mono ?_
        rintro e w9 ⟨rfl, hb9⟩
        clear t0 t1 tf tl s0 s1 sf sl
        have R9 := R8.keep (hb9.block _ R8.lt) hb9.size
        have S9 := S8.keep (hb9.block _ S8.lt) hb9.size
        have T9 := T8.keep (hb9.block _ T8.lt) hb9.size
        have HF9 : Hid (Sl w9 (w.heap.size + 1 + 1) hi 1 (.slice Au n' cu) n' (sC F)) := HF8.out.below hb9 (by omega)
        have O9 := O8.then_below hb9
        have C9 := C8.below hb9 (Nat.le_refl _)
        have hz9 := hb9.size
        clear R8 S8 T8 O8 C8 HF8 hb9
        have hws := wbS_small F n' x y p q
        obtain ⟨ws, hwe⟩ : ∃ ws, ws = wbS F n' x y p q := ⟨_, rfl⟩
        rw [← hwe] at hws ⊢
        clear hwe
        cases e3 : wbOk F n' x y p q with
        | false =>
          go_wp2_with fail
          refine (pick_any _ _ _ _ C9 (by omega)).mono ?_
          rintro e w30 ⟨v30, rfl, hv30, C30, hO30⟩
          have R30 := R9.only hO30 (by omega)
          have S30 := S9.only hO30 (by omega)
          have T30 := T9.only hO30 (by omega)
          have HF30 : Hid (Sl w30 (w.heap.size + 1 + 1) hi 1 (.slice Au n' cu) n' (sC F)) := HF9.out.onlyF hO30 (by omega) (by omega)
          have O30 := O9.trans hO30
          have hz30 := hO30.size
          clear R9 S9 T9 O9 C9 HF9 hO30
          go_wp2_with fail
          refine (one_any _ _ _ _ C30 (by omega)).mono ?_
          rintro e w31 ⟨b31, rfl, C31, hO31⟩
          have R31 := R30.only hO31 (by omega)
          have S31 := S30.only hO31 (by omega)
          have T31 := T30.only hO31 (by omega)
          have HF31 : Hid (Sl w31 (w.heap.size + 1 + 1) hi 1 (.slice Au n' cu) n' (sC F)) := HF30.out.onlyF hO31 (by omega) (by omega)
          have O31 := O30.trans hO31
          have hz31 := hO31.size
          clear R30 S30 T30 O30 C30 HF30 hO31
          cases b31 with
          | true =>
            go_wp2_with fail
            refine (pick_any _ _ _ _ C31 (by omega)).mono ?_
            rintro e w32 ⟨v32, rfl, hv32, C32, hO32⟩
            have R32 := R31.only hO32 (by omega)
            have S32 := S31.only hO32 (by omega)
            have T32 := T31.only hO32 (by omega)
            have HF32 : Hid (Sl w32 (w.heap.size + 1 + 1) hi 1 (.slice Au n' cu) n' (sC F)) := HF31.out.onlyF hO32 (by omega) (by omega)
            have O32 := O31.trans hO32
            have hz32 := hO32.size
            clear R31 S31 T31 O31 C31 HF31 hO32
            have z200 : IntKind.i64.wrap (200 + v32) = 200 + v32 := IntWalk.i64_in _ (by omega)
            have hnn : 0 ≤ (200 + v32) ∧ (200 + v32) ≤ 201 := by omega
            go_wp2_with fail
            go_loopg [11] 205 (fun gn sv wr => ∃ s : ByteArray, sv = .string s ∧ (s.size : Int) ≤ (200 + v32) + 1 ∧ (200 + v32).toNat - s.size < gn ∧ BxI wr w.heap.size 0 0 ∧ BxI wr b7 x y ∧ BxI wr b8 p q ∧ Cu wr (w.heap.size + 1) (2000 + 2 * s.size) ∧ Only (w.heap.size + 1) (w.heap.size + 1 + 1) w wr ∧ w32.heap.size ≤ wr.heap.size ∧ Hid (Sl wr (w.heap.size + 1 + 1) hi 1 (.slice Au n' cu) n' (sC F)))
            case atStart => exact ⟨⟨#[]⟩, rfl, by simp [ByteArray.size]; omega, by simp [ByteArray.size]; omega, R32, S32, T32, C32.more (by omega), O32, Nat.le_refl _, HF32.out⟩
            case round =>
              clear R32 S32 T32 C32
              obtain ⟨s, rfl, hs, hgn, R50, S50, T50, C50, O50, hzz, HF50⟩ := hrel
              have hz50 := O50.size
              by_cases hsn : (s.size : Int) < (200 + v32)
              · go_wp2_with fail
                refine (of_new _ _ _ _ _ _ _ C50 (by first | (with_reducible rfl) | simp) (by omega) (by rfl) (by decide) (by decide) (by simp [isS])).mono ?_
                rintro e w51 ⟨v51, rfl, hM51, C51, hO51⟩
                have hz51 := hO51.size
                simp at hM51
                have hs5 : 1 ≤ v51.size ∧ v51.size ≤ 2 := by rcases hM51 with rfl | rfl | rfl | rfl | rfl | rfl <;> decide
                have hsx : (s ++ v51).size = s.size + v51.size := ByteArray.size_append
                have R51 := R50.only hO51 (by omega)
                have S51 := S50.only hO51 (by omega)
                have T51 := T50.only hO51 (by omega)
                have O51 := O50.trans hO51
                have HF51 : Hid (Sl w51 (w.heap.size + 1 + 1) hi 1 (.slice Au n' cu) n' (sC F)) := HF50.out.onlyF hO51 (by omega) (by omega)
                clear R50 S50 T50 C50 O50 hO51 hM51 HF50
                go_wp2_with fail
                go_roundg ((200 + v32).toNat - s.size)
                case measure => omega
                case rel => exact ⟨s ++ v51, rfl, by omega, by omega, R51, S51, T51, C51.more (by omega), O51, by omega, HF51.out⟩
              · have hs202 : s.size ≤ 202 := by omega
                go_wp2_with fail
                refine (one_any _ _ _ _ C50 (by omega)).mono ?_
                rintro e w52 ⟨b52, rfl, C52, hO52⟩
                have R52 := R50.only hO52 (by omega)
                have S52 := S50.only hO52 (by omega)
                have T52 := T50.only hO52 (by omega)
                have HF52 : Hid (Sl w52 (w.heap.size + 1 + 1) hi 1 (.slice Au n' cu) n' (sC F)) := HF50.out.onlyF hO52 (by omega) (by omega)
                have O52 := O50.trans hO52
                have hz52 := hO52.size
                clear R50 S50 T50 O50 C50 HF50 hO52
                cases b52 with
                | true =>
                  have hsx : (s ++ ⟨#[120]⟩ : ByteArray).size ≤ 203 := by rw [ByteArray.size_append]; show s.size + 1 ≤ 203; omega
                  obtain ⟨r0, r1, rf, rl⟩ := R52
                  obtain ⟨s0, s1, sf, sl⟩ := S52
                  have hb : Below w.heap.size w w52 := O52.below (by omega) (Nat.le_refl _)
                  have hir : hi ≤ w52.heap.size := by omega
                  clear O52 C52 T52
                  go_wp2_with fail
                  go_region
                  all_goals go_wp2_with fail
                  all_goals exact bodyPost_ret (v := .tuple #[.slice Au n' cu, .agg #[.int .i64 x, .int .i64 y], .string (s ++ ⟨#[120]⟩)]) (by simp [results, Tryd.results35, go_sem, *]) rfl ⟨_, _, F, _, _, _, rfl, (by omega), (sl_set (sl_set HF52.out (by simp; try omega) _) (by simp; try omega) _).mono (by omega) (by simp [World.setCell]; try omega), hff, (by repeat (first | (with_reducible exact Below.refl _ _) | (with_reducible refine below_ov ?_ ?_) | (with_reducible refine Below.setCell ?_ ?_ _) | (with_reducible refine Below.alloc ?_ ?_ _) | (with_reducible refine Below.drew ?_) | (with_reducible refine below_drewN ?_ _) | (refine Below.trans ?_ (Below.mono ‹Below _ _ _› (by first | omega | (simp; done) | (simp; omega)))) | exact Below.refl _ _ | omega | (focus (simp; done)) | (focus (simp; omega))))⟩
                | false =>
                  obtain ⟨r0, r1, rf, rl⟩ := R52
                  obtain ⟨s0, s1, sf, sl⟩ := S52
                  have hb : Below w.heap.size w w52 := O52.below (by omega) (Nat.le_refl _)
                  have hir : hi ≤ w52.heap.size := by omega
                  clear O52 C52 T52
                  go_wp2_with fail
                  go_region
                  all_goals go_wp2_with fail
                  all_goals exact bodyPost_ret (v := .tuple #[.slice Au n' cu, .agg #[.int .i64 x, .int .i64 y], .string s]) (by simp [results, Tryd.results35, go_sem, *]) rfl ⟨_, _, F, _, _, _, rfl, (by omega), (sl_set (sl_set HF52.out (by simp; try omega) _) (by simp; try omega) _).mono (by omega) (by simp [World.setCell]; try omega), hff, (by repeat (first | (with_reducible exact Below.refl _ _) | (with_reducible refine below_ov ?_ ?_) | (with_reducible refine Below.setCell ?_ ?_ _) | (with_reducible refine Below.alloc ?_ ?_ _) | (with_reducible refine Below.drew ?_) | (with_reducible refine below_drewN ?_ _) | (refine Below.trans ?_ (Below.mono ‹Below _ _ _› (by first | omega | (simp; done) | (simp; omega)))) | exact Below.refl _ _ | omega | (focus (simp; done)) | (focus (simp; omega))))⟩
          | false =>
            have hnn : 0 ≤ v30 ∧ v30 ≤ 201 := by omega
            go_wp2_with fail
            go_loopg [11] 205 (fun gn sv wr => ∃ s : ByteArray, sv = .string s ∧ (s.size : Int) ≤ v30 + 1 ∧ v30.toNat - s.size < gn ∧ BxI wr w.heap.size 0 0 ∧ BxI wr b7 x y ∧ BxI wr b8 p q ∧ Cu wr (w.heap.size + 1) (2000 + 2 * s.size) ∧ Only (w.heap.size + 1) (w.heap.size + 1 + 1) w wr ∧ w31.heap.size ≤ wr.heap.size ∧ Hid (Sl wr (w.heap.size + 1 + 1) hi 1 (.slice Au n' cu) n' (sC F)))
            case atStart => exact ⟨⟨#[]⟩, rfl, by simp [ByteArray.size]; omega, by simp [ByteArray.size]; omega, R31, S31, T31, C31.more (by omega), O31, Nat.le_refl _, HF31.out⟩
            case round =>
              clear R31 S31 T31 C31
              obtain ⟨s, rfl, hs, hgn, R50, S50, T50, C50, O50, hzz, HF50⟩ := hrel
              have hz50 := O50.size
              by_cases hsn : (s.size : Int) < v30
              · go_wp2_with fail
                refine (of_new _ _ _ _ _ _ _ C50 (by first | (with_reducible rfl) | simp) (by omega) (by rfl) (by decide) (by decide) (by simp [isS])).mono ?_
                rintro e w51 ⟨v51, rfl, hM51, C51, hO51⟩
                have hz51 := hO51.size
                simp at hM51
                have hs5 : 1 ≤ v51.size ∧ v51.size ≤ 2 := by rcases hM51 with rfl | rfl | rfl | rfl | rfl | rfl <;> decide
                have hsx : (s ++ v51).size = s.size + v51.size := ByteArray.size_append
                have R51 := R50.only hO51 (by omega)
                have S51 := S50.only hO51 (by omega)
                have T51 := T50.only hO51 (by omega)
                have O51 := O50.trans hO51
                have HF51 : Hid (Sl w51 (w.heap.size + 1 + 1) hi 1 (.slice Au n' cu) n' (sC F)) := HF50.out.onlyF hO51 (by omega) (by omega)
                clear R50 S50 T50 C50 O50 hO51 hM51 HF50
                go_wp2_with fail
                go_roundg (v30.toNat - s.size)
                case measure => omega
                case rel => exact ⟨s ++ v51, rfl, by omega, by omega, R51, S51, T51, C51.more (by omega), O51, by omega, HF51.out⟩
              · have hs202 : s.size ≤ 202 := by omega
                go_wp2_with fail
                refine (one_any _ _ _ _ C50 (by omega)).mono ?_
                rintro e w52 ⟨b52, rfl, C52, hO52⟩
                have R52 := R50.only hO52 (by omega)
                have S52 := S50.only hO52 (by omega)
                have T52 := T50.only hO52 (by omega)
                have HF52 : Hid (Sl w52 (w.heap.size + 1 + 1) hi 1 (.slice Au n' cu) n' (sC F)) := HF50.out.onlyF hO52 (by omega) (by omega)
                have O52 := O50.trans hO52
                have hz52 := hO52.size
                clear R50 S50 T50 O50 C50 HF50 hO52
                cases b52 with
                | true =>
                  have hsx : (s ++ ⟨#[120]⟩ : ByteArray).size ≤ 203 := by rw [ByteArray.size_append]; show s.size + 1 ≤ 203; omega
                  obtain ⟨r0, r1, rf, rl⟩ := R52
                  obtain ⟨s0, s1, sf, sl⟩ := S52
                  have hb : Below w.heap.size w w52 := O52.below (by omega) (Nat.le_refl _)
                  have hir : hi ≤ w52.heap.size := by omega
                  clear O52 C52 T52
                  go_wp2_with fail
                  go_region
                  all_goals go_wp2_with fail
                  all_goals exact bodyPost_ret (v := .tuple #[.slice Au n' cu, .agg #[.int .i64 x, .int .i64 y], .string (s ++ ⟨#[120]⟩)]) (by simp [results, Tryd.results35, go_sem, *]) rfl ⟨_, _, F, _, _, _, rfl, (by omega), (sl_set (sl_set HF52.out (by simp; try omega) _) (by simp; try omega) _).mono (by omega) (by simp [World.setCell]; try omega), hff, (by repeat (first | (with_reducible exact Below.refl _ _) | (with_reducible refine below_ov ?_ ?_) | (with_reducible refine Below.setCell ?_ ?_ _) | (with_reducible refine Below.alloc ?_ ?_ _) | (with_reducible refine Below.drew ?_) | (with_reducible refine below_drewN ?_ _) | (refine Below.trans ?_ (Below.mono ‹Below _ _ _› (by first | omega | (simp; done) | (simp; omega)))) | exact Below.refl _ _ | omega | (focus (simp; done)) | (focus (simp; omega))))⟩
                | false =>
                  obtain ⟨r0, r1, rf, rl⟩ := R52
                  obtain ⟨s0, s1, sf, sl⟩ := S52
                  have hb : Below w.heap.size w w52 := O52.below (by omega) (Nat.le_refl _)
                  have hir : hi ≤ w52.heap.size := by omega
                  clear O52 C52 T52
                  go_wp2_with fail
                  go_region
                  all_goals go_wp2_with fail
                  all_goals exact bodyPost_ret (v := .tuple #[.slice Au n' cu, .agg #[.int .i64 x, .int .i64 y], .string s]) (by simp [results, Tryd.results35, go_sem, *]) rfl ⟨_, _, F, _, _, _, rfl, (by omega), (sl_set (sl_set HF52.out (by simp; try omega) _) (by simp; try omega) _).mono (by omega) (by simp [World.setCell]; try omega), hff, (by repeat (first | (with_reducible exact Below.refl _ _) | (with_reducible refine below_ov ?_ ?_) | (with_reducible refine Below.setCell ?_ ?_ _) | (with_reducible refine Below.alloc ?_ ?_ _) | (with_reducible refine Below.drew ?_) | (with_reducible refine below_drewN ?_ _) | (refine Below.trans ?_ (Below.mono ‹Below _ _ _› (by first | omega | (simp; done) | (simp; omega)))) | exact Below.refl _ _ | omega | (focus (simp; done)) | (focus (simp; omega))))⟩
        | true =>
          obtain ⟨r0, r1, rf, rl⟩ := R9
          obtain ⟨s0, s1, sf, sl⟩ := S9
          have hb : Below w.heap.size w w9 := O9.below (by omega) (Nat.le_refl _)
          have hir : hi ≤ w9.heap.size := by omega
          clear O9 C9 T9
          go_wp2_with fail
          go_region
          all_goals go_wp2_with fail
          all_goals exact bodyPost_ret (v := .tuple #[.slice Au n' cu, .agg #[.int .i64 x, .int .i64 y], .string ws]) (by simp [results, Tryd.results35, go_sem, *]) rfl ⟨_, _, F, _, _, _, rfl, (by omega), (sl_set (sl_set HF9.out (by simp; try omega) _) (by simp; try omega) _).mono (by omega) (by simp [World.setCell]; try omega), hff, (by repeat (first | (with_reducible exact Below.refl _ _) | (with_reducible refine below_ov ?_ ?_) | (with_reducible refine Below.setCell ?_ ?_ _) | (with_reducible refine Below.alloc ?_ ?_ _) | (with_reducible refine Below.drew ?_) | (with_reducible refine below_drewN ?_ _) | (refine Below.trans ?_ (Below.mono ‹Below _ _ _› (by first | omega | (simp; done) | (simp; omega)))) | exact Below.refl _ _ | omega | (focus (simp; done)) | (focus (simp; omega))))⟩

end Go.Proofs.YtpckhpkbdanjoaaDoor

/-
  The frame of a law's statement: where the call returns true and nothing below the old heap has turned, the row holds.-/
namespace Go.Proofs.YtpckhpkbdanjoaaDoor
set_option linter.unusedVariables false
set_option linter.unusedSimpArgs false
open Go.ChangeShapes Go.WideShapes Go.ChangeAt Go.RowKit Go.Joins Go.Deep

theorem Tryd.own : ownKnob Tryd.prog.godebug = none := by kernel_rfl
theorem Tryd.laidOut : laidOutB Tryd.prog = true := by kernel_rfl
theorem Tryd.rowed : mapsRowed Tryd.prog = true := by kernel_rfl
theorem Tryd.whole : (Tryd.prog.stopsHeard && Tryd.prog.mayEnter && (!Tryd.prog.liftsFinal) && (Tryd.prog.make == some Make.cut)) = true := by kernel_rfl
theorem Tryd.heard : Tryd.prog.stopsHeard = true := by have h := Tryd.whole; simp only [Bool.and_eq_true] at h; exact h.1.1.1
theorem Tryd.enters : Tryd.prog.mayEnter = true := by have h := Tryd.whole; simp only [Bool.and_eq_true] at h; exact h.1.1.2
theorem Tryd.lifts : Tryd.prog.liftsFinal = false := by have h := Tryd.whole; simp only [Bool.and_eq_true, Bool.not_eq_true'] at h; exact h.1.2
theorem Tryd.made : Tryd.prog.make = some Make.cut := by have h := Tryd.whole; simp only [Bool.and_eq_true, beq_iff_eq] at h; exact h.2

section
variable {H : Type} {enc : TypeId × Value → H} {P : Program}
theorem trodAll_below (hl : laidOutB P = true) {W W' : World} (hb : Below W.heap.size W W') : ∀ {ts : List TypeId} {vs : List Value} {ds : List (DataW H)} {ps : List MemPlace},
    ts.all (fun t => P.readableRec t && decide (t < P.types.size)) = true → DataW.TrodAll enc P W 0 (fun _ => true) true ts vs ds ps → (∀ x ∈ ps, x.block < W.heap.size) →
    DataW.TrodAll enc P W' 0 (fun b => decide (b < W.heap.size)) true ts vs ds ps
  | [], [], [], _, _, h, _ => h
  | t :: ts, v :: vs, d :: ds, ps, hr, h, hlt => by
    obtain ⟨p, q, h1, h2, rfl⟩ := h
    simp only [List.all_cons, Bool.and_eq_true] at hr
    exact ⟨p, q, Below.trod hl hr.1.1 (of_decide_eq_true hr.1.2) h1 hb (fun x hx => hlt x (List.mem_append.2 (.inl hx))), trodAll_below hl hb hr.2 h2 (fun x hx => hlt x (List.mem_append.2 (.inr hx))), rfl⟩
  | [], _ :: _, _, _, _, h, _ => by cases h
  | [], [], _ :: _, _, _, h, _ => by cases h
  | _ :: _, [], _, _, _, h, _ => by cases h
  | _ :: _, _ :: _, [], _, _, h, _ => by cases h

theorem law_post {f : Func} {s : ChangeSpec} {W W' : World} {args : Array Value} {ds : List (DataW H)} {before : List MemPlace} {T : TypeId}
    (hl : laidOutB P = true) (hvars : s.vars = []) (hr : f.params.toList.all (fun t => P.readableRec t && decide (t < P.types.size)) = true)
    (hT : f.resultTypes = #[T]) (hTb : P.underlying T = some .bool)
    (hW : DataW.Whole enc P f.params.toList s.vars false W args.toList ds [] before)
    (hs : s.fn H (ds ++ []) = { results := [.lit (.bool true)], args := ds }) (hb : Below W.heap.size W W') : s.post enc P f false true false false W args (.bool true) W' := by
  have hW' := hW
  obtain ⟨p, q, hA, hV, rfl, _, _⟩ := hW
  have hlt : ∀ x ∈ p ++ q, x.block < W.heap.size := fun x hx => by simpa using hW'.lt x hx
  rw [hvars] at hV
  have hq : q = [] := by simpa [DataW.TrodVars] using hV
  subst hq
  refine ⟨ds, [], p ++ [], [], p, [], hW', ?_, ?_, ?_, ?_, fun h => by cases h⟩
  · rw [hT, hs]
    exact trodAll_mk1 (shut_bool hTb true)
  · rw [hs]
    exact trodAll_below hl hb hr hA (fun x hx => hlt x (by simpa using hx))
  · rw [hs, hvars]
    rfl
  · exact hb.frame _
end

end Go.Proofs.YtpckhpkbdanjoaaDoor
