/-
  Walks: a floor: the program's word and the reference's.
-/
import Derived.Test.YtpckhpkbdanjoaaDoorPTrim
import Derived.Test.YtpckhpkbdanjoaaDoorCells
namespace Go.Proofs.YtpckhpkbdanjoaaDoor
set_option linter.unusedVariables false
set_option linter.unusedSimpArgs false
open Go.RowKit

set_option maxRecDepth 100000 in
set_option maxHeartbeats 1600000 in
theorem isFloor_any (F : Nat → ByteArray) (n lo hi : Nat) (v : Value) (w : World) (hv : Sl w lo hi 1 v n (sC F)) (hhi : hi ≤ w.heap.size) (hf : ffits F n) :
    Calls Tryd.prog 56 #[v] w fun e w' => e = .returned (.bool (flB F n)) ∧ Below w.heap.size w w' := by
  obtain ⟨A, cap, rfl, hcap, hA⟩ := hv.open_
  obtain ⟨hn, hsz⟩ := hf
  cases e0 : inB n 1 12 with
  | false =>
    have HF : Hid (flB F n = false) := by show _ = _; simp [flB, e0]
    go_enter Tryd.func56, Tryd.ntmps56
    go_wp2_with (go_at_call 68; refine (inside_any _ _ _ _).mono ?_; rintro e w' ⟨rfl, rfl⟩)
    go_ret
    exact ⟨ret_bool HF.out.symm, (by repeat (first | (with_reducible exact Below.refl _ _) | (with_reducible refine below_ov ?_ ?_) | (with_reducible refine Below.setCell ?_ ?_ _) | (with_reducible refine Below.alloc ?_ ?_ _) | (with_reducible refine Below.drew ?_) | (with_reducible refine below_drewN ?_ _) | (refine Below.trans ?_ (Below.mono ‹Below _ _ _› (by first | omega | (simp; done) | (simp; omega)))) | exact Below.refl _ _ | omega | (focus (simp; done)) | (focus (simp; omega))))⟩
  | true =>
    have e0' := inB_iff.1 e0
    have hn0 : 0 < n := by omega
    have z0 := hsz 0 hn0
    unfold maxLen at z0
    obtain ⟨blk, off, rfl, h1, h2, h3⟩ := hA hn0
    have c0 : w.cell? ⟨blk, off, none⟩ = some (.string (F 0)) := by simpa [sC] using h3 0 0 hn0 (by omega)
    cases e1 : inB (F 0).size 1 12 with
    | false =>
      have HF : Hid (flB F n = false) := by show _ = _; simp [flB, e1]
      go_enter Tryd.func56, Tryd.ntmps56
      go_wp2_with (go_at_call 68; refine (inside_any _ _ _ _).mono ?_; rintro e w' ⟨rfl, rfl⟩)
      go_ret
      exact ⟨ret_bool HF.out.symm, (by repeat (first | (with_reducible exact Below.refl _ _) | (with_reducible refine below_ov ?_ ?_) | (with_reducible refine Below.setCell ?_ ?_ _) | (with_reducible refine Below.alloc ?_ ?_ _) | (with_reducible refine Below.drew ?_) | (with_reducible refine below_drewN ?_ _) | (refine Below.trans ?_ (Below.mono ‹Below _ _ _› (by first | omega | (simp; done) | (simp; omega)))) | exact Below.refl _ _ | omega | (focus (simp; done)) | (focus (simp; omega))))⟩
    | true =>
      have e1' := inB_iff.1 e1
      go_enter Tryd.func56, Tryd.ntmps56
      go_wp2_with (go_at_call 68; refine (inside_any _ _ _ _).mono ?_; rintro e w' ⟨rfl, rfl⟩)
      go_loopw [19] (fun i wr => ∃ k : Nat, k ≤ n ∧ i = .int .i64 k ∧ Hid (∀ j, j < k → rowB F j = true) ∧ Below w.heap.size w wr) (fun i _ => n - (intOf i).toNat)
      case atStart => exact ⟨0, by omega, rfl, fun j hj => by omega, Below.refl _ _⟩
      case round =>
        obtain ⟨k, hk, rfl, hj, hb⟩ := hrel
        have hzr := hb.size
        by_cases hkn : k < n
        · have c0' := (hb.cell (p := ⟨blk, off, none⟩) (show blk < _ by omega)).trans c0
          have ck : wr.cell? ⟨blk, off + k, none⟩ = some (.string (F k)) := by
            have := h3 k 0 hkn (by omega)
            simp only [Nat.mul_one, Nat.add_zero] at this
            exact (hb.cell (p := ⟨blk, off + k, none⟩) (show blk < _ by omega)).trans this
          have l0 : blk < wr.heap.size := by omega
          have zk := hsz k hkn
          clear c0 h3 hA
          cases e2 : ((F k).size == (F 0).size) with
          | false =>
            have HF : Hid (flB F n = false) := flB_no hkn (by simp at e2; simp [rowB, e2])
            have d2 : (((F k).size : Int) != ((F 0).size : Int)) = true := by simp at e2; simp; omega
            clear e2
            go_wp2_with fail
            go_ret
            exact ⟨ret_bool HF.out.symm, (by repeat (first | (with_reducible exact Below.refl _ _) | (with_reducible refine below_ov ?_ ?_) | (with_reducible refine Below.setCell ?_ ?_ _) | (with_reducible refine Below.alloc ?_ ?_ _) | (with_reducible refine Below.drew ?_) | (with_reducible refine below_drewN ?_ _) | (refine Below.trans ?_ (Below.mono ‹Below _ _ _› (by first | omega | (simp; done) | (simp; omega)))) | exact Below.refl _ _ | omega | (focus (simp; done)) | (focus (simp; omega))))⟩
          | true =>
            have d2 : (((F k).size : Int) != ((F 0).size : Int)) = false := by simp at e2; simp; omega
            have e2' : (F k).size = (F 0).size := by simpa using e2
            have HE2 := hide e2'
            clear e2 e2'
            go_wp2_with fail
            refine (Trim_any (F k) _ zk).mono ?_
            rintro e w2 ⟨⟨t, rfl, ht⟩, hb2⟩
            have hz2 := hb2.size
            cases e3 : allB (cel (F k)) (F k).size with
            | false =>
              have HF : Hid (flB F n = false) := flB_no hkn (by simp [rowB, e3])
              rw [e3] at ht
              have ht' : (!t.toList.isEmpty) = true := by simp [ht]
              clear e3
              go_wp2_with fail
              go_ret
              exact ⟨ret_bool HF.out.symm, (by repeat (first | (with_reducible exact Below.refl _ _) | (with_reducible refine below_ov ?_ ?_) | (with_reducible refine Below.setCell ?_ ?_ _) | (with_reducible refine Below.alloc ?_ ?_ _) | (with_reducible refine Below.drew ?_) | (with_reducible refine below_drewN ?_ _) | (refine Below.trans ?_ (Below.mono ‹Below _ _ _› (by first | omega | (simp; done) | (simp; omega)))) | exact Below.refl _ _ | omega | (focus (simp; done)) | (focus (simp; omega))))⟩
            | true =>
              have HG : Hid (rowB F k = true) := by show _ = _; rw [rowB, e3, HE2.out]; simp
              rw [e3] at ht
              have ht' : (!t.toList.isEmpty) = false := by simp [ht]
              clear e3
              go_wp2_with fail
              go_roundw
              case rel => exact ⟨k + 1, by omega, by go_num, upto_snoc hj.out HG.out, (by repeat (first | (with_reducible exact Below.refl _ _) | (with_reducible refine below_ov ?_ ?_) | (with_reducible refine Below.setCell ?_ ?_ _) | (with_reducible refine Below.alloc ?_ ?_ _) | (with_reducible refine Below.drew ?_) | (with_reducible refine below_drewN ?_ _) | (refine Below.trans ?_ (Below.mono ‹Below _ _ _› (by first | omega | (simp; done) | (simp; omega)))) | exact Below.refl _ _ | omega | (focus (simp; done)) | (focus (simp; omega))))⟩
              case measure => simp [intOf]; omega
        · obtain rfl : k = n := by omega
          have HF : Hid (flB F k = true) := by
            show _ = _
            rw [flB, allB_iff.2 hj.out, e0, e1]; rfl
          go_wp2_with fail
          go_ret
          exact ⟨ret_bool HF.out.symm, hb⟩
set_option maxRecDepth 100000 in
set_option maxHeartbeats 1600000 in
theorem seGood_any (F : Nat → ByteArray) (n lo hi : Nat) (v : Value) (w : World) (hv : Sl w lo hi 1 v n (sC F)) (hhi : hi ≤ w.heap.size) (hf : ffits F n) :
    Calls Tryd.prog 52 #[v] w fun e w' => e = .returned (.bool (flB F n)) ∧ Below w.heap.size w w' := by
  obtain ⟨A, cap, rfl, hcap, hA⟩ := hv.open_
  obtain ⟨hn, hsz⟩ := hf
  cases e0 : inB n 1 12 with
  | false =>
    have HF : Hid (flB F n = false) := by show _ = _; simp [flB, e0]
    go_enter Tryd.func52, Tryd.ntmps52
    go_wp2_with (go_at_call 66; refine (l1In_any _ _ _ _).mono ?_; rintro e w' ⟨rfl, rfl⟩)
    go_ret
    exact ⟨ret_bool HF.out.symm, (by repeat (first | (with_reducible exact Below.refl _ _) | (with_reducible refine below_ov ?_ ?_) | (with_reducible refine Below.setCell ?_ ?_ _) | (with_reducible refine Below.alloc ?_ ?_ _) | (with_reducible refine Below.drew ?_) | (with_reducible refine below_drewN ?_ _) | (refine Below.trans ?_ (Below.mono ‹Below _ _ _› (by first | omega | (simp; done) | (simp; omega)))) | exact Below.refl _ _ | omega | (focus (simp; done)) | (focus (simp; omega))))⟩
  | true =>
    have e0' := inB_iff.1 e0
    have hn0 : 0 < n := by omega
    have z0 := hsz 0 hn0
    unfold maxLen at z0
    obtain ⟨blk, off, rfl, h1, h2, h3⟩ := hA hn0
    have c0 : w.cell? ⟨blk, off, none⟩ = some (.string (F 0)) := by simpa [sC] using h3 0 0 hn0 (by omega)
    cases e1 : inB (F 0).size 1 12 with
    | false =>
      have HF : Hid (flB F n = false) := by show _ = _; simp [flB, e1]
      go_enter Tryd.func52, Tryd.ntmps52
      go_wp2_with (go_at_call 66; refine (l1In_any _ _ _ _).mono ?_; rintro e w' ⟨rfl, rfl⟩)
      go_ret
      exact ⟨ret_bool HF.out.symm, (by repeat (first | (with_reducible exact Below.refl _ _) | (with_reducible refine below_ov ?_ ?_) | (with_reducible refine Below.setCell ?_ ?_ _) | (with_reducible refine Below.alloc ?_ ?_ _) | (with_reducible refine Below.drew ?_) | (with_reducible refine below_drewN ?_ _) | (refine Below.trans ?_ (Below.mono ‹Below _ _ _› (by first | omega | (simp; done) | (simp; omega)))) | exact Below.refl _ _ | omega | (focus (simp; done)) | (focus (simp; omega))))⟩
    | true =>
      have e1' := inB_iff.1 e1
      go_enter Tryd.func52, Tryd.ntmps52
      go_wp2_with (go_at_call 66; refine (l1In_any _ _ _ _).mono ?_; rintro e w' ⟨rfl, rfl⟩)
      go_loopw [20] (fun i wr => ∃ k : Nat, k ≤ n ∧ i = .int .i64 k ∧ Hid (∀ j, j < k → rowB F j = true) ∧ Below w.heap.size w wr) (fun i _ => n - (intOf i).toNat)
      case atStart => exact ⟨0, by omega, rfl, fun j hj => by omega, Below.refl _ _⟩
      case round =>
        obtain ⟨k, hk, rfl, hj, hb⟩ := hrel
        have hzr := hb.size
        by_cases hkn : k < n
        · have c0' := (hb.cell (p := ⟨blk, off, none⟩) (show blk < _ by omega)).trans c0
          have ck : wr.cell? ⟨blk, off + k, none⟩ = some (.string (F k)) := by
            have := h3 k 0 hkn (by omega)
            simp only [Nat.mul_one, Nat.add_zero] at this
            exact (hb.cell (p := ⟨blk, off + k, none⟩) (show blk < _ by omega)).trans this
          have l0 : blk < wr.heap.size := by omega
          have zk := hsz k hkn
          clear c0 h3 hA
          cases e2 : ((F k).size == (F 0).size) with
          | false =>
            have HF : Hid (flB F n = false) := flB_no hkn (by simp at e2; simp [rowB, e2])
            have d2 : (((F k).size : Int) != ((F 0).size : Int)) = true := by simp at e2; simp; omega
            clear e2
            go_wp2_with fail
            go_ret
            exact ⟨ret_bool HF.out.symm, (by repeat (first | (with_reducible exact Below.refl _ _) | (with_reducible refine below_ov ?_ ?_) | (with_reducible refine Below.setCell ?_ ?_ _) | (with_reducible refine Below.alloc ?_ ?_ _) | (with_reducible refine Below.drew ?_) | (with_reducible refine below_drewN ?_ _) | (refine Below.trans ?_ (Below.mono ‹Below _ _ _› (by first | omega | (simp; done) | (simp; omega)))) | exact Below.refl _ _ | omega | (focus (simp; done)) | (focus (simp; omega))))⟩
          | true =>
            have d2 : (((F k).size : Int) != ((F 0).size : Int)) = false := by simp at e2; simp; omega
            have e2' : (F k).size = (F 0).size := by simpa using e2
            have HE2 := hide e2'
            clear e2 e2'
            go_wp2_with fail
            obtain ⟨wo, ewo⟩ : ∃ wo : World, wo = wr := ⟨_, rfl⟩
            subst ewo
            have hbo := hb
            unfold maxLen at zk
            go_loopw [5] (fun i wr => ∃ m : Nat, m ≤ (F k).size ∧ i = .int .i64 m ∧ Hid (∀ j, j < m → cel (F k) j = true) ∧ Below w.heap.size w wr) (fun i _ => (F k).size - (intOf i).toNat)
            case atStart => exact ⟨0, by omega, rfl, fun j hj => by omega, hbo⟩
            case round =>
              clear hb hzr
              obtain ⟨m, hm, rfl, hjm, hb⟩ := hrel
              by_cases hmn : m < (F k).size
              · have hby := byteAt_eq hmn
                by_cases i46 : byteAt (F k) m = 46
                · have HG : Hid (cel (F k) m = true) := cel_iff.2 (.inl i46)
                  have d3 : (((F k)[m].toNat : Int) != 46) = false := by simp; omega
                  clear hby i46
                  go_wp2_with fail
                  go_roundw
                  case rel => exact ⟨m + 1, by omega, by go_num, upto_snoc hjm.out HG.out, (by repeat (first | (with_reducible exact Below.refl _ _) | (with_reducible refine below_ov ?_ ?_) | (with_reducible refine Below.setCell ?_ ?_ _) | (with_reducible refine Below.alloc ?_ ?_ _) | (with_reducible refine Below.drew ?_) | (with_reducible refine below_drewN ?_ _) | (refine Below.trans ?_ (Below.mono ‹Below _ _ _› (by first | omega | (simp; done) | (simp; omega)))) | exact Below.refl _ _ | omega | (focus (simp; done)) | (focus (simp; omega))))⟩
                  case measure => simp [intOf]; omega
                · by_cases i35 : byteAt (F k) m = 35
                  · have HG : Hid (cel (F k) m = true) := cel_iff.2 (.inr i35)
                    have d3 : (((F k)[m].toNat : Int) != 46) = true := by simp; omega
                    have d4 : (((F k)[m].toNat : Int) != 35) = false := by simp; omega
                    clear hby i46 i35
                    go_wp2_with fail
                    go_roundw
                    case rel => exact ⟨m + 1, by omega, by go_num, upto_snoc hjm.out HG.out, (by repeat (first | (with_reducible exact Below.refl _ _) | (with_reducible refine below_ov ?_ ?_) | (with_reducible refine Below.setCell ?_ ?_ _) | (with_reducible refine Below.alloc ?_ ?_ _) | (with_reducible refine Below.drew ?_) | (with_reducible refine below_drewN ?_ _) | (refine Below.trans ?_ (Below.mono ‹Below _ _ _› (by first | omega | (simp; done) | (simp; omega)))) | exact Below.refl _ _ | omega | (focus (simp; done)) | (focus (simp; omega))))⟩
                    case measure => simp [intOf]; omega
                  · have HF : Hid (flB F n = false) := flB_no hkn (by simp [rowB, allB_false hmn (cel_no i46 i35)])
                    have d3 : (((F k)[m].toNat : Int) != 46) = true := by simp; omega
                    have d4 : (((F k)[m].toNat : Int) != 35) = true := by simp; omega
                    clear hby i46 i35
                    go_wp2_with fail
                    go_ret
                    exact ⟨ret_bool HF.out.symm, (by repeat (first | (with_reducible exact Below.refl _ _) | (with_reducible refine below_ov ?_ ?_) | (with_reducible refine Below.setCell ?_ ?_ _) | (with_reducible refine Below.alloc ?_ ?_ _) | (with_reducible refine Below.drew ?_) | (with_reducible refine below_drewN ?_ _) | (refine Below.trans ?_ (Below.mono ‹Below _ _ _› (by first | omega | (simp; done) | (simp; omega)))) | exact Below.refl _ _ | omega | (focus (simp; done)) | (focus (simp; omega))))⟩
              · obtain rfl : m = (F k).size := by omega
                have HG : Hid (rowB F k = true) := by show _ = _; rw [rowB, allB_iff.2 hjm.out, HE2.out]; simp
                go_wp2_with fail
                go_roundw
                case rel => exact ⟨k + 1, by omega, by go_num, upto_snoc hj.out HG.out, (by repeat (first | (with_reducible exact Below.refl _ _) | (with_reducible refine below_ov ?_ ?_) | (with_reducible refine Below.setCell ?_ ?_ _) | (with_reducible refine Below.alloc ?_ ?_ _) | (with_reducible refine Below.drew ?_) | (with_reducible refine below_drewN ?_ _) | (refine Below.trans ?_ (Below.mono ‹Below _ _ _› (by first | omega | (simp; done) | (simp; omega)))) | exact Below.refl _ _ | omega | (focus (simp; done)) | (focus (simp; omega))))⟩
                case measure => simp [intOf]; omega
        · obtain rfl : k = n := by omega
          have HF : Hid (flB F k = true) := by
            show _ = _
            rw [flB, allB_iff.2 hj.out, e0, e1]; rfl
          go_wp2_with fail
          go_ret
          exact ⟨ret_bool HF.out.symm, hb⟩

theorem IsFloor_impl (F : Nat → ByteArray) (n lo hi : Nat) (v : Value) (w : World) (hv : Sl w lo hi 1 v n (sC F)) (hhi : hi ≤ w.heap.size) (hf : ffits F n) :
    Calls Tryd.prog 45 #[v] w fun e w' => e = .returned (.bool (flB F n)) ∧ Below w.heap.size w w' := by
  obtain ⟨A, cap, rfl, hcap, hA⟩ := hv.open_
  go_enter Tryd.func45, Tryd.ntmps45
  go_wp2_with (go_at_call 56; refine (isFloor_any F n lo hi _ _ hv hhi hf).mono ?_; rintro e w1 ⟨rfl, hb1⟩; have hz1 := hb1.size; (try (simp at hz1)); obtain ⟨hcw1, hfw1⟩ := bcell hb1; (try (have hy1 : w.heap.size < w1.heap.size := by omega)); (try (have hyy1 : w.heap.size + 1 < w1.heap.size := by omega)); (try (have hyyy1 : w.heap.size + 1 + 1 < w1.heap.size := by omega)))
  go_ret
  exact ⟨rfl, (by repeat (first | (with_reducible exact Below.refl _ _) | (with_reducible refine below_ov ?_ ?_) | (with_reducible refine Below.setCell ?_ ?_ _) | (with_reducible refine Below.alloc ?_ ?_ _) | (with_reducible refine Below.drew ?_) | (with_reducible refine below_drewN ?_ _) | (refine Below.trans ?_ (Below.mono ‹Below _ _ _› (by first | omega | (simp; done) | (simp; omega)))) | exact Below.refl _ _ | omega | (focus (simp; done)) | (focus (simp; omega))))⟩

end Go.Proofs.YtpckhpkbdanjoaaDoor
