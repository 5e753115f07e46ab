/-
  Walks: names.
-/
import Derived.Test.YtkikjneamjmdlaaMem
import Derived.Test.YtkikjneamjmdlaaWL1
namespace Go.Proofs.Ytkikjneamjmdlaa
set_option linter.unusedVariables false
set_option linter.unusedSimpArgs false
open Go.RowKit

def byteAt (s : ByteArray) (i : Nat) : Int := if h : i < s.size then (s[i].toNat : Int) else 0
def lowB (c : Int) : Bool := decide (97 ≤ c) && decide (c ≤ 122)
def digB (c : Int) : Bool := decide (48 ≤ c) && decide (c ≤ 57)
def nm1 (s : ByteArray) (i : Nat) : Bool := lowB (byteAt s i) || (digB (byteAt s i) && !decide (i = 0))
def nameB (s : ByteArray) : Bool := allB (nm1 s) s.size && inB s.size 1 6
theorem byteAt_eq {s : ByteArray} {i : Nat} (h : i < s.size) : (s[i].toNat : Int) = byteAt s i := by simp [byteAt, h]
theorem nameB_no {s : ByteArray} {k : Nat} (hk : k < s.size) (h : nm1 s k = false) : nameB s = false := by rw [nameB, allB_false hk h]; rfl

/-- Where a byte lies among digits and letters. -/
theorem byte_cases (c : Int) : (c < 48) ∨ (48 ≤ c ∧ c ≤ 57) ∨ (57 < c ∧ c < 97) ∨ (97 ≤ c ∧ c ≤ 122) ∨ 122 < c := by omega
theorem nm1_no1 {s : ByteArray} {i : Nat} (h : byteAt s i < 48) : nm1 s i = false := by simp [nm1, lowB, digB]; omega
theorem nm1_no2 {s : ByteArray} {i : Nat} (h : 57 < byteAt s i) (h' : byteAt s i < 97) : nm1 s i = false := by simp [nm1, lowB, digB]; omega
theorem nm1_no3 {s : ByteArray} {i : Nat} (h : 122 < byteAt s i) : nm1 s i = false := by simp [nm1, lowB, digB]; omega
theorem nm1_low {s : ByteArray} {i : Nat} (h : 97 ≤ byteAt s i) (h' : byteAt s i ≤ 122) : nm1 s i = true := by simp [nm1, lowB, digB]; omega
theorem nm1_dig {s : ByteArray} {i : Nat} (h : 48 ≤ byteAt s i) (h' : byteAt s i ≤ 57) (h0 : 0 < i) : nm1 s i = true := by simp [nm1, lowB, digB]; omega
theorem nm1_dig0 {s : ByteArray} {i : Nat} (h : 48 ≤ byteAt s i) (h' : byteAt s i ≤ 57) (h0 : i = 0) : nm1 s i = false := by subst h0; simp [nm1, lowB, digB]; omega

set_option maxRecDepth 100000 in
set_option maxHeartbeats 1600000 in
theorem isName_any (s : ByteArray) (w : World) (hs : s.size ≤ maxLen) :
    Calls Try.prog 36 #[.string s] w fun e w' => e = .returned (.bool (nameB s)) ∧ Drew w w' := by
  unfold maxLen at hs
  go_enter Try.func36, Try.ntmps36
  go_wp2_with fail
  go_loopw [8] (fun i wr => ∃ k : Nat, k ≤ s.size ∧ i = .int .i64 k ∧ Hid (∀ j, j < k → nm1 s j = true) ∧ Drew w wr) (fun i _ => s.size - (intOf i).toNat)
  case atStart => exact ⟨0, by omega, rfl, fun j hj => by omega, ⟨0, rfl⟩⟩
  case round =>
    obtain ⟨k, hk, rfl, hj, hw⟩ := hrel
    by_cases hkn : k < s.size
    · have hb := byteAt_eq hkn
      rcases byte_cases (byteAt s k) with h | h | h | h | h
      · have HF := hide (nameB_no hkn (nm1_no1 h))
        have a1 : decide (97 ≤ (s[k].toNat : Int)) = false := by simp; omega
        have a2 : decide (48 ≤ (s[k].toNat : Int)) = false := by simp; omega
        clear hb h
        go_wp2_with fail
        go_quiet (fail)
        go_wp2_with fail
        go_ret
        exact ⟨ret_bool HF.out.symm, (by repeat (first | exact Drew.refl _ | assumption | (refine Drew.drewN ?_ _) | (refine Drew.trans ?_ (by assumption))))⟩
      · rcases Nat.eq_zero_or_pos k with hk0 | h0
        · have HF := hide (nameB_no hkn (nm1_dig0 h.1 h.2 hk0))
          have d0 : ((k : Int) == 0) = true := by simp; omega
          have a1 : decide (97 ≤ (s[k].toNat : Int)) = false := by simp; omega
          have a2 : decide (48 ≤ (s[k].toNat : Int)) = true := by simp; omega
          have b2 : decide ((s[k].toNat : Int) ≤ 57) = true := by simp; omega
          clear hb h hk0
          go_wp2_with fail
          go_quiet (fail)
          go_wp2_with fail
          go_ret
          exact ⟨ret_bool HF.out.symm, (by repeat (first | exact Drew.refl _ | assumption | (refine Drew.drewN ?_ _) | (refine Drew.trans ?_ (by assumption))))⟩
        · have HG := hide (nm1_dig h.1 h.2 h0)
          have a1 : decide (97 ≤ (s[k].toNat : Int)) = false := by simp; omega
          have a2 : decide (48 ≤ (s[k].toNat : Int)) = true := by simp; omega
          have b2 : decide ((s[k].toNat : Int) ≤ 57) = true := by simp; omega
          have d0 : ((k : Int) == 0) = false := by simp; omega
          clear hb h
          go_wp2_with fail
          go_quiet (fail)
          go_wp2_with fail
          go_roundw
          case rel => exact ⟨k + 1, by omega, by go_num, upto_snoc hj.out HG.out, (by repeat (first | exact Drew.refl _ | assumption | (refine Drew.drewN ?_ _) | (refine Drew.trans ?_ (by assumption))))⟩
          case measure => simp [intOf]; omega
      · have HF := hide (nameB_no hkn (nm1_no2 h.1 h.2))
        have a1 : decide (97 ≤ (s[k].toNat : Int)) = false := by simp; omega
        have a2 : decide (48 ≤ (s[k].toNat : Int)) = true := by simp; omega
        have b2 : decide ((s[k].toNat : Int) ≤ 57) = false := by simp; omega
        clear hb h
        go_wp2_with fail
        go_quiet (fail)
        go_wp2_with fail
        go_ret
        exact ⟨ret_bool HF.out.symm, (by repeat (first | exact Drew.refl _ | assumption | (refine Drew.drewN ?_ _) | (refine Drew.trans ?_ (by assumption))))⟩
      · have HG := hide (nm1_low h.1 h.2)
        have a1 : decide (97 ≤ (s[k].toNat : Int)) = true := by simp; omega
        have b1 : decide ((s[k].toNat : Int) ≤ 122) = true := by simp; omega
        have a2 : decide (48 ≤ (s[k].toNat : Int)) = true := by simp; omega
        have b2 : decide ((s[k].toNat : Int) ≤ 57) = false := by simp; omega
        clear hb h
        go_wp2_with fail
        go_quiet (fail)
        go_wp2_with fail
        go_roundw
        case rel => exact ⟨k + 1, by omega, by go_num, upto_snoc hj.out HG.out, (by repeat (first | exact Drew.refl _ | assumption | (refine Drew.drewN ?_ _) | (refine Drew.trans ?_ (by assumption))))⟩
        case measure => simp [intOf]; omega
      · have HF := hide (nameB_no hkn (nm1_no3 h))
        have a1 : decide (97 ≤ (s[k].toNat : Int)) = true := by simp; omega
        have b1 : decide ((s[k].toNat : Int) ≤ 122) = false := by simp; omega
        have a2 : decide (48 ≤ (s[k].toNat : Int)) = true := by simp; omega
        have b2 : decide ((s[k].toNat : Int) ≤ 57) = false := by simp; omega
        clear hb h
        go_wp2_with fail
        go_quiet (fail)
        go_wp2_with fail
        go_ret
        exact ⟨ret_bool HF.out.symm, (by repeat (first | exact Drew.refl _ | assumption | (refine Drew.drewN ?_ _) | (refine Drew.trans ?_ (by assumption))))⟩
    · obtain rfl : k = s.size := by omega
      have HE : Hid (allB (nm1 s) s.size = true) := allB_iff.2 hj.out
      go_wp2_with (go_at_call 37; refine (inside_any _ _ _ _).mono ?_; rintro e w' ⟨rfl, rfl⟩)
      go_ret
      exact ⟨ret_bool (by rw [nameB, HE.out]; rfl), (by repeat (first | exact Drew.refl _ | assumption | (refine Drew.drewN ?_ _) | (refine Drew.trans ?_ (by assumption))))⟩
set_option maxRecDepth 100000 in
set_option maxHeartbeats 1600000 in
theorem apName_any (s : ByteArray) (w : World) (hs : s.size ≤ maxLen) :
    Calls Try.prog 33 #[.string s] w fun e w' => e = .returned (.bool (nameB s)) ∧ Drew w w' := by
  unfold maxLen at hs
  go_enter Try.func33, Try.ntmps33
  go_wp2_with fail
  go_loopw [3] (fun i wr => ∃ k : Nat, k ≤ s.size ∧ i = .int .i64 k ∧ Hid (∀ j, j < k → nm1 s j = true) ∧ Drew w wr) (fun i _ => s.size - (intOf i).toNat)
  case atStart => exact ⟨0, by omega, rfl, fun j hj => by omega, ⟨0, rfl⟩⟩
  case round =>
    obtain ⟨k, hk, rfl, hj, hw⟩ := hrel
    by_cases hkn : k < s.size
    · have hb := byteAt_eq hkn
      rcases byte_cases (byteAt s k) with h | h | h | h | h
      · have HF := hide (nameB_no hkn (nm1_no1 h))
        have a1 : decide (97 ≤ (s[k].toNat : Int)) = false := by simp; omega
        have a2 : decide (48 ≤ (s[k].toNat : Int)) = false := by simp; omega
        clear hb h
        go_wp2_with fail
        go_ret
        exact ⟨ret_bool HF.out.symm, (by repeat (first | exact Drew.refl _ | assumption | (refine Drew.drewN ?_ _) | (refine Drew.trans ?_ (by assumption))))⟩
      · rcases Nat.eq_zero_or_pos k with hk0 | h0
        · have HF := hide (nameB_no hkn (nm1_dig0 h.1 h.2 hk0))
          have d0 : ((k : Int) == 0) = true := by simp; omega
          have a1 : decide (97 ≤ (s[k].toNat : Int)) = false := by simp; omega
          have a2 : decide (48 ≤ (s[k].toNat : Int)) = true := by simp; omega
          have b2 : decide ((s[k].toNat : Int) ≤ 57) = true := by simp; omega
          clear hb h hk0
          go_wp2_with fail
          go_ret
          exact ⟨ret_bool HF.out.symm, (by repeat (first | exact Drew.refl _ | assumption | (refine Drew.drewN ?_ _) | (refine Drew.trans ?_ (by assumption))))⟩
        · have HG := hide (nm1_dig h.1 h.2 h0)
          have a1 : decide (97 ≤ (s[k].toNat : Int)) = false := by simp; omega
          have a2 : decide (48 ≤ (s[k].toNat : Int)) = true := by simp; omega
          have b2 : decide ((s[k].toNat : Int) ≤ 57) = true := by simp; omega
          have d0 : ((k : Int) == 0) = false := by simp; omega
          clear hb h
          go_wp2_with fail
          go_roundw
          case rel => exact ⟨k + 1, by omega, by go_num, upto_snoc hj.out HG.out, (by repeat (first | exact Drew.refl _ | assumption | (refine Drew.drewN ?_ _) | (refine Drew.trans ?_ (by assumption))))⟩
          case measure => simp [intOf]; omega
      · have HF := hide (nameB_no hkn (nm1_no2 h.1 h.2))
        have a1 : decide (97 ≤ (s[k].toNat : Int)) = false := by simp; omega
        have a2 : decide (48 ≤ (s[k].toNat : Int)) = true := by simp; omega
        have b2 : decide ((s[k].toNat : Int) ≤ 57) = false := by simp; omega
        clear hb h
        go_wp2_with fail
        go_ret
        exact ⟨ret_bool HF.out.symm, (by repeat (first | exact Drew.refl _ | assumption | (refine Drew.drewN ?_ _) | (refine Drew.trans ?_ (by assumption))))⟩
      · have HG := hide (nm1_low h.1 h.2)
        have a1 : decide (97 ≤ (s[k].toNat : Int)) = true := by simp; omega
        have b1 : decide ((s[k].toNat : Int) ≤ 122) = true := by simp; omega
        have a2 : decide (48 ≤ (s[k].toNat : Int)) = true := by simp; omega
        have b2 : decide ((s[k].toNat : Int) ≤ 57) = false := by simp; omega
        clear hb h
        go_wp2_with fail
        go_roundw
        case rel => exact ⟨k + 1, by omega, by go_num, upto_snoc hj.out HG.out, (by repeat (first | exact Drew.refl _ | assumption | (refine Drew.drewN ?_ _) | (refine Drew.trans ?_ (by assumption))))⟩
        case measure => simp [intOf]; omega
      · have HF := hide (nameB_no hkn (nm1_no3 h))
        have a1 : decide (97 ≤ (s[k].toNat : Int)) = true := by simp; omega
        have b1 : decide ((s[k].toNat : Int) ≤ 122) = false := by simp; omega
        have a2 : decide (48 ≤ (s[k].toNat : Int)) = true := by simp; omega
        have b2 : decide ((s[k].toNat : Int) ≤ 57) = false := by simp; omega
        clear hb h
        go_wp2_with fail
        go_ret
        exact ⟨ret_bool HF.out.symm, (by repeat (first | exact Drew.refl _ | assumption | (refine Drew.drewN ?_ _) | (refine Drew.trans ?_ (by assumption))))⟩
    · obtain rfl : k = s.size := by omega
      have HE : Hid (allB (nm1 s) s.size = true) := allB_iff.2 hj.out
      go_wp2_with (go_at_call 34; refine (l1In_any _ _ _ _).mono ?_; rintro e w' ⟨rfl, rfl⟩)
      go_ret
      exact ⟨ret_bool (by rw [nameB, HE.out]; rfl), (by repeat (first | exact Drew.refl _ | assumption | (refine Drew.drewN ?_ _) | (refine Drew.trans ?_ (by assumption))))⟩

end Go.Proofs.Ytkikjneamjmdlaa
