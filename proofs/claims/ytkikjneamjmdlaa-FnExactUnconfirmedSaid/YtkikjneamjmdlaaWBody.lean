/-
  Walks: bodies of messages.
-/
import Derived.Test.YtkikjneamjmdlaaWName
namespace Go.Proofs.Ytkikjneamjmdlaa
set_option linter.unusedVariables false
set_option linter.unusedSimpArgs false
open Go.RowKit

/-- A letter, a digit; a blank too. -/
def bdAny (s : ByteArray) (i : Nat) : Bool := lowB (byteAt s i) || digB (byteAt s i) || decide (byteAt s i = 32)
def bd1 (s : ByteArray) (i : Nat) : Bool := lowB (byteAt s i) || digB (byteAt s i) || (decide (byteAt s i = 32) && !decide (i = 0) && !decide (i + 1 = s.size))
def bodyB (s : ByteArray) : Bool := allB (bd1 s) s.size && inB s.size 1 12
theorem bodyB_no {s : ByteArray} {k : Nat} (hk : k < s.size) (h : bd1 s k = false) : bodyB s = false := by rw [bodyB, allB_false hk h]; rfl
theorem body_cases (c : Int) : (c < 48 ∧ c ≠ 32) ∨ (c = 32) ∨ (48 ≤ c ∧ c ≤ 57) ∨ (57 < c ∧ c < 97) ∨ (97 ≤ c ∧ c ≤ 122) ∨ (122 < c) := by omega
theorem bd_low {s : ByteArray} {i : Nat} (h : (97 ≤ byteAt s i ∧ byteAt s i ≤ 122) ∨ (48 ≤ byteAt s i ∧ byteAt s i ≤ 57)) : bd1 s i = true ∧ bdAny s i = true := by
  simp [bd1, bdAny, lowB, digB]; omega
theorem bd_no {s : ByteArray} {i : Nat} (h : (byteAt s i < 48 ∧ byteAt s i ≠ 32) ∨ (57 < byteAt s i ∧ byteAt s i < 97) ∨ 122 < byteAt s i) : bd1 s i = false ∧ bdAny s i = false := by
  simp [bd1, bdAny, lowB, digB]; omega
theorem bd_any_false {s : ByteArray} {i : Nat} (h : bdAny s i = false) : bd1 s i = false := by
  simp [bd1, bdAny, lowB, digB] at h ⊢; omega
theorem bd_blank {s : ByteArray} {i : Nat} (h : byteAt s i = 32) : bd1 s i = (!decide (i = 0) && !decide (i + 1 = s.size)) ∧ bdAny s i = true := by
  simp [bd1, bdAny, lowB, digB, h]
/-- The program's way to say it. -/
theorem body_eq {s : ByteArray} (h : ∀ j, j < s.size → bdAny s j = true) (h0 : 0 < s.size) : allB (bd1 s) s.size = (!decide (byteAt s 0 = 32) && !decide (byteAt s (s.size - 1) = 32)) := by
  by_cases a : byteAt s 0 = 32
  · rw [allB_false h0 (by rw [(bd_blank a).1]; simp)]
    simp [a]
  · by_cases b : byteAt s (s.size - 1) = 32
    · rw [allB_false (i := s.size - 1) (by omega) (by rw [(bd_blank b).1]; simp; omega)]
      simp [b]
    · rw [allB_iff.2]
      · simp [a, b]
      · intro j hj
        have h1 := h j hj
        simp only [bdAny, Bool.or_eq_true, decide_eq_true_eq] at h1
        rcases h1 with h1 | h1
        · simp only [bd1, Bool.or_eq_true]; exact .inl h1
        · rw [(bd_blank h1).1]
          have e0 : j ≠ 0 := fun e => a (by rw [← e]; exact h1)
          have e1 : j + 1 ≠ s.size := fun e => b (by rw [← e]; exact h1)
          simp [e0, e1]

set_option maxRecDepth 100000 in
set_option maxHeartbeats 1600000 in
theorem raBody_any (s : ByteArray) (w : World) (hs : s.size ≤ maxLen) :
    Calls Try.prog 35 #[.string s] w fun e w' => e = .returned (.bool (bodyB s)) ∧ Drew w w' := by
  unfold maxLen at hs
  go_enter Try.func35, Try.ntmps35
  go_wp2_with fail
  go_loopw [3] (fun i wr => ∃ k : Nat, k ≤ s.size ∧ i = .int .i64 k ∧ Hid (∀ j, j < k → bd1 s j = true) ∧ Drew w wr) (fun i _ => s.size - (intOf i).toNat)
  case atStart => exact ⟨0, by omega, rfl, fun j hj => by omega, ⟨0, rfl⟩⟩
  case round =>
    obtain ⟨k, hk, rfl, hj, hw⟩ := hrel
    by_cases hkn : k < s.size
    · have hb := byteAt_eq hkn
      rcases body_cases (byteAt s k) with h | h | h | h | h | h
      · have HF := hide (bodyB_no hkn (bd_no (.inl h)).1)
        have a1 : decide (97 ≤ (s[k].toNat : Int)) = false := by simp; omega
        have a2 : decide (48 ≤ (s[k].toNat : Int)) = false := by simp; omega
        have e1 : ((s[k].toNat : Int) == 32) = false := by simp; omega
        have e2 : ((s[k].toNat : Int) != 32) = true := by simp; omega
        clear hb h
        go_wp2_with fail
        go_ret
        exact ⟨ret_bool HF.out.symm, (by repeat (first | exact Drew.refl _ | assumption | (refine Drew.drewN ?_ _) | (refine Drew.trans ?_ (by assumption))))⟩
      · have HB := (bd_blank h).1
        have a1 : decide (97 ≤ (s[k].toNat : Int)) = false := by simp; omega
        have a2 : decide (48 ≤ (s[k].toNat : Int)) = false := by simp; omega
        have e1 : ((s[k].toNat : Int) == 32) = true := by simp; omega
        have e2 : ((s[k].toNat : Int) != 32) = false := by simp; omega
        clear hb h
        by_cases i0 : k = 0
        · have HF : Hid (bodyB s = false) := bodyB_no hkn (by rw [HB]; simp [i0])
          have d0 : ((k : Int) == 0) = true := by simp; omega
          clear HB i0
          go_wp2_with fail
          go_ret
          exact ⟨ret_bool HF.out.symm, (by repeat (first | exact Drew.refl _ | assumption | (refine Drew.drewN ?_ _) | (refine Drew.trans ?_ (by assumption))))⟩
        · by_cases i1 : k + 1 = s.size
          · have HF : Hid (bodyB s = false) := bodyB_no hkn (by rw [HB]; simp [i1])
            have d0 : ((k : Int) == 0) = false := by simp; omega
            have d1 : ((k : Int) == (s.size : Int) - 1) = true := by simp; omega
            clear HB i0 i1
            go_wp2_with fail
            go_ret
            exact ⟨ret_bool HF.out.symm, (by repeat (first | exact Drew.refl _ | assumption | (refine Drew.drewN ?_ _) | (refine Drew.trans ?_ (by assumption))))⟩
          · have HG : Hid (bd1 s k = true) := by
              show bd1 s k = true
              rw [HB]; simp [i0, i1]
            have d0 : ((k : Int) == 0) = false := by simp; omega
            have d1 : ((k : Int) == (s.size : Int) - 1) = false := by simp; omega
            clear HB i0 i1
            go_wp2_with fail
            go_roundw
            case rel => exact ⟨k + 1, by omega, by go_num, upto_snoc hj.out HG.out, (by repeat (first | exact Drew.refl _ | assumption | (refine Drew.drewN ?_ _) | (refine Drew.trans ?_ (by assumption))))⟩
            case measure => simp [intOf]; omega
      · have HG := hide (bd_low (.inr h)).1
        have a1 : decide (97 ≤ (s[k].toNat : Int)) = false := by simp; omega
        have a2 : decide (48 ≤ (s[k].toNat : Int)) = true := by simp; omega
        have b2 : decide ((s[k].toNat : Int) ≤ 57) = true := by simp; omega
        clear hb h
        go_wp2_with fail
        go_roundw
        case rel => exact ⟨k + 1, by omega, by go_num, upto_snoc hj.out HG.out, (by repeat (first | exact Drew.refl _ | assumption | (refine Drew.drewN ?_ _) | (refine Drew.trans ?_ (by assumption))))⟩
        case measure => simp [intOf]; omega
      · have HF := hide (bodyB_no hkn (bd_no (.inr (.inl h))).1)
        have a1 : decide (97 ≤ (s[k].toNat : Int)) = false := by simp; omega
        have a2 : decide (48 ≤ (s[k].toNat : Int)) = true := by simp; omega
        have b2 : decide ((s[k].toNat : Int) ≤ 57) = false := by simp; omega
        have e1 : ((s[k].toNat : Int) == 32) = false := by simp; omega
        have e2 : ((s[k].toNat : Int) != 32) = true := by simp; omega
        clear hb h
        go_wp2_with fail
        go_ret
        exact ⟨ret_bool HF.out.symm, (by repeat (first | exact Drew.refl _ | assumption | (refine Drew.drewN ?_ _) | (refine Drew.trans ?_ (by assumption))))⟩
      · have HG := hide (bd_low (.inl h)).1
        have a1 : decide (97 ≤ (s[k].toNat : Int)) = true := by simp; omega
        have b1 : decide ((s[k].toNat : Int) ≤ 122) = true := by simp; omega
        clear hb h
        go_wp2_with fail
        go_roundw
        case rel => exact ⟨k + 1, by omega, by go_num, upto_snoc hj.out HG.out, (by repeat (first | exact Drew.refl _ | assumption | (refine Drew.drewN ?_ _) | (refine Drew.trans ?_ (by assumption))))⟩
        case measure => simp [intOf]; omega
      · have HF := hide (bodyB_no hkn (bd_no (.inr (.inr h))).1)
        have a1 : decide (97 ≤ (s[k].toNat : Int)) = true := by simp; omega
        have b1 : decide ((s[k].toNat : Int) ≤ 122) = false := by simp; omega
        have a2 : decide (48 ≤ (s[k].toNat : Int)) = true := by simp; omega
        have b2 : decide ((s[k].toNat : Int) ≤ 57) = false := by simp; omega
        have e1 : ((s[k].toNat : Int) == 32) = false := by simp; omega
        have e2 : ((s[k].toNat : Int) != 32) = true := by simp; omega
        clear hb h
        go_wp2_with fail
        go_ret
        exact ⟨ret_bool HF.out.symm, (by repeat (first | exact Drew.refl _ | assumption | (refine Drew.drewN ?_ _) | (refine Drew.trans ?_ (by assumption))))⟩
    · obtain rfl : k = s.size := by omega
      have HE : Hid (allB (bd1 s) s.size = true) := allB_iff.2 hj.out
      go_wp2_with (go_at_call 34; refine (l1In_any _ _ _ _).mono ?_; rintro e w' ⟨rfl, rfl⟩)
      go_ret
      exact ⟨ret_bool (by rw [bodyB, HE.out]; rfl), (by repeat (first | exact Drew.refl _ | assumption | (refine Drew.drewN ?_ _) | (refine Drew.trans ?_ (by assumption))))⟩
set_option maxRecDepth 100000 in
set_option maxHeartbeats 1600000 in
theorem isBody_any (s : ByteArray) (w : World) (hs : s.size ≤ maxLen) :
    Calls Try.prog 38 #[.string s] w fun e w' => e = .returned (.bool (bodyB s)) ∧ Drew w w' := by
  unfold maxLen at hs
  go_enter Try.func38, Try.ntmps38
  go_wp2_with fail
  go_loopw [6] (fun i wr => ∃ k : Nat, k ≤ s.size ∧ i = .int .i64 k ∧ Hid (∀ j, j < k → bdAny s j = true) ∧ Drew w wr) (fun i _ => s.size - (intOf i).toNat)
  case atStart => exact ⟨0, by omega, rfl, fun j hj => by omega, ⟨0, rfl⟩⟩
  case round =>
    obtain ⟨k, hk, rfl, hj, hw⟩ := hrel
    by_cases hkn : k < s.size
    · have hb := byteAt_eq hkn
      rcases body_cases (byteAt s k) with h | h | h | h | h | h
      · have HF := hide (bodyB_no hkn (bd_no (.inl h)).1)
        have a1 : decide (97 ≤ (s[k].toNat : Int)) = false := by simp; omega
        have a2 : decide (48 ≤ (s[k].toNat : Int)) = false := by simp; omega
        have e1 : ((s[k].toNat : Int) == 32) = false := by simp; omega
        have e2 : ((s[k].toNat : Int) != 32) = true := by simp; omega
        clear hb h
        go_wp2_with fail
        go_ret
        exact ⟨ret_bool HF.out.symm, (by repeat (first | exact Drew.refl _ | assumption | (refine Drew.drewN ?_ _) | (refine Drew.trans ?_ (by assumption))))⟩
      · have HG := hide (bd_blank h).2
        have a1 : decide (97 ≤ (s[k].toNat : Int)) = false := by simp; omega
        have a2 : decide (48 ≤ (s[k].toNat : Int)) = false := by simp; omega
        have e1 : ((s[k].toNat : Int) == 32) = true := by simp; omega
        have e2 : ((s[k].toNat : Int) != 32) = false := by simp; omega
        clear hb h
        go_wp2_with fail
        go_roundw
        case rel => exact ⟨k + 1, by omega, by go_num, upto_snoc hj.out HG.out, (by repeat (first | exact Drew.refl _ | assumption | (refine Drew.drewN ?_ _) | (refine Drew.trans ?_ (by assumption))))⟩
        case measure => simp [intOf]; omega
      · have HG := hide (bd_low (.inr h)).2
        have a1 : decide (97 ≤ (s[k].toNat : Int)) = false := by simp; omega
        have a2 : decide (48 ≤ (s[k].toNat : Int)) = true := by simp; omega
        have b2 : decide ((s[k].toNat : Int) ≤ 57) = true := by simp; omega
        clear hb h
        go_wp2_with fail
        go_roundw
        case rel => exact ⟨k + 1, by omega, by go_num, upto_snoc hj.out HG.out, (by repeat (first | exact Drew.refl _ | assumption | (refine Drew.drewN ?_ _) | (refine Drew.trans ?_ (by assumption))))⟩
        case measure => simp [intOf]; omega
      · have HF := hide (bodyB_no hkn (bd_no (.inr (.inl h))).1)
        have a1 : decide (97 ≤ (s[k].toNat : Int)) = false := by simp; omega
        have a2 : decide (48 ≤ (s[k].toNat : Int)) = true := by simp; omega
        have b2 : decide ((s[k].toNat : Int) ≤ 57) = false := by simp; omega
        have e1 : ((s[k].toNat : Int) == 32) = false := by simp; omega
        have e2 : ((s[k].toNat : Int) != 32) = true := by simp; omega
        clear hb h
        go_wp2_with fail
        go_ret
        exact ⟨ret_bool HF.out.symm, (by repeat (first | exact Drew.refl _ | assumption | (refine Drew.drewN ?_ _) | (refine Drew.trans ?_ (by assumption))))⟩
      · have HG := hide (bd_low (.inl h)).2
        have a1 : decide (97 ≤ (s[k].toNat : Int)) = true := by simp; omega
        have b1 : decide ((s[k].toNat : Int) ≤ 122) = true := by simp; omega
        clear hb h
        go_wp2_with fail
        go_roundw
        case rel => exact ⟨k + 1, by omega, by go_num, upto_snoc hj.out HG.out, (by repeat (first | exact Drew.refl _ | assumption | (refine Drew.drewN ?_ _) | (refine Drew.trans ?_ (by assumption))))⟩
        case measure => simp [intOf]; omega
      · have HF := hide (bodyB_no hkn (bd_no (.inr (.inr h))).1)
        have a1 : decide (97 ≤ (s[k].toNat : Int)) = true := by simp; omega
        have b1 : decide ((s[k].toNat : Int) ≤ 122) = false := by simp; omega
        have a2 : decide (48 ≤ (s[k].toNat : Int)) = true := by simp; omega
        have b2 : decide ((s[k].toNat : Int) ≤ 57) = false := by simp; omega
        have e1 : ((s[k].toNat : Int) == 32) = false := by simp; omega
        have e2 : ((s[k].toNat : Int) != 32) = true := by simp; omega
        clear hb h
        go_wp2_with fail
        go_ret
        exact ⟨ret_bool HF.out.symm, (by repeat (first | exact Drew.refl _ | assumption | (refine Drew.drewN ?_ _) | (refine Drew.trans ?_ (by assumption))))⟩
    · obtain rfl : k = s.size := by omega
      clear hk
      cases hin : inB s.size 1 12 with
      | false =>
        have HF : Hid (bodyB s = false) := by show bodyB s = false; simp [bodyB, hin]
        go_wp2_with (go_at_call 37; refine (inside_any _ _ _ _).mono ?_; rintro e w' ⟨rfl, rfl⟩)
        go_ret
        exact ⟨ret_bool HF.out.symm, (by repeat (first | exact Drew.refl _ | assumption | (refine Drew.drewN ?_ _) | (refine Drew.trans ?_ (by assumption))))⟩
      | true =>
        have hsz := inB_iff.1 hin
        have h0 : 0 < s.size := by omega
        have h1 : s.size - 1 < s.size := by omega
        have HB : Hid (bodyB s = (!decide (byteAt s 0 = 32) && !decide (byteAt s (s.size - 1) = 32))) := by
          show bodyB s = _
          rw [bodyB, hin, body_eq hj.out h0, Bool.and_true]
        have hb0 := byteAt_eq h0
        have hb1 := byteAt_eq h1
        cases z0 : decide (byteAt s 0 = 32) with
        | true =>
          have z0' := of_decide_eq_true z0
          have HF : Hid (bodyB s = false) := by show bodyB s = false; rw [HB.out, z0]; rfl
          have e0 : ((s[0].toNat : Int) != 32) = false := by simp; omega
          clear hb0 hb1 z0 z0'
          go_wp2_with (go_at_call 37; refine (inside_any _ _ _ _).mono ?_; rintro e w' ⟨rfl, rfl⟩)
          go_ret
          exact ⟨ret_bool HF.out.symm, (by repeat (first | exact Drew.refl _ | assumption | (refine Drew.drewN ?_ _) | (refine Drew.trans ?_ (by assumption))))⟩
        | false =>
          have z0' := of_decide_eq_false z0
          have e0 : ((s[0].toNat : Int) != 32) = true := by simp; omega
          cases z1 : decide (byteAt s (s.size - 1) = 32) with
          | true =>
            have z1' := of_decide_eq_true z1
            have HF : Hid (bodyB s = false) := by show bodyB s = false; rw [HB.out, z0, z1]; rfl
            have e1 : ((s[s.size - 1].toNat : Int) != 32) = false := by simp; omega
            clear hb0 hb1 z0 z0' z1 z1'
            go_wp2_with (go_at_call 37; refine (inside_any _ _ _ _).mono ?_; rintro e w' ⟨rfl, rfl⟩)
            go_ret
            exact ⟨ret_bool HF.out.symm, (by repeat (first | exact Drew.refl _ | assumption | (refine Drew.drewN ?_ _) | (refine Drew.trans ?_ (by assumption))))⟩
          | false =>
            have z1' := of_decide_eq_false z1
            have HF : Hid (bodyB s = true) := by show bodyB s = true; rw [HB.out, z0, z1]; rfl
            have e1 : ((s[s.size - 1].toNat : Int) != 32) = true := by simp; omega
            clear hb0 hb1 z0 z0' z1 z1'
            go_wp2_with (go_at_call 37; refine (inside_any _ _ _ _).mono ?_; rintro e w' ⟨rfl, rfl⟩)
            go_ret
            exact ⟨ret_bool HF.out.symm, (by repeat (first | exact Drew.refl _ | assumption | (refine Drew.drewN ?_ _) | (refine Drew.trans ?_ (by assumption))))⟩

end Go.Proofs.Ytkikjneamjmdlaa
