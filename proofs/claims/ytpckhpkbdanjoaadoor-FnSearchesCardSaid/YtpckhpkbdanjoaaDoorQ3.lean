/-
  Texts of this proof, one behind the other (part 3).
-/
import Derived.Test.YtpckhpkbdanjoaaDoorQ2
import Derived.ArgAppend
import Derived.Deep.DeepAppendRoom
/-
  Walks: a floor: the program's word and the reference's.-/
namespace Go.Proofs.YtpckhpkbdanjoaaDoor
set_option linter.unusedVariables false
set_option linter.unusedSimpArgs false
open Go.RowKit

set_option maxRecDepth 100000 in
set_option maxHeartbeats 1600000 in
theorem isFloor_any (F : Nat → ByteArray) (n lo hi : Nat) (v : Value) (w : World) (hv : Sl w lo hi 1 v n (sC F)) (hhi : hi ≤ w.heap.size) (hf : ffits F n) :
    Calls Tryd.prog 56 #[v] w fun e w' => e = .returned (.bool (flB F n)) ∧ Below w.heap.size w w' := by
  obtain ⟨A, cap, rfl, hcap, hA⟩ := hv.open_
  obtain ⟨hn, hsz⟩ := hf
  cases e0 : inB n 1 12 with
  | false =>
    have HF : Hid (flB F n = false) := by show _ = _; simp [flB, e0]
    go_enter Tryd.func56, Tryd.ntmps56
    go_wp2_with (go_at_call 68; refine (inside_any _ _ _ _).mono ?_; rintro e w' ⟨rfl, rfl⟩)
    go_ret
    exact ⟨ret_bool HF.out.symm, (by repeat (first | (with_reducible exact Below.refl _ _) | (with_reducible refine below_ov ?_ ?_) | (with_reducible refine Below.setCell ?_ ?_ _) | (with_reducible refine Below.alloc ?_ ?_ _) | (with_reducible refine Below.drew ?_) | (with_reducible refine below_drewN ?_ _) | (refine Below.trans ?_ (Below.mono ‹Below _ _ _› (by first | omega | (simp; done) | (simp; omega)))) | exact Below.refl _ _ | omega | (focus (simp; done)) | (focus (simp; omega))))⟩
  | true =>
    have e0' := inB_iff.1 e0
    have hn0 : 0 < n := by omega
    have z0 := hsz 0 hn0
    unfold maxLen at z0
    obtain ⟨blk, off, rfl, h1, h2, h3⟩ := hA hn0
    have c0 : w.cell? ⟨blk, off, none⟩ = some (.string (F 0)) := by simpa [sC] using h3 0 0 hn0 (by omega)
    cases e1 : inB (F 0).size 1 12 with
    | false =>
      have HF : Hid (flB F n = false) := by show _ = _; simp [flB, e1]
      go_enter Tryd.func56, Tryd.ntmps56
      go_wp2_with (go_at_call 68; refine (inside_any _ _ _ _).mono ?_; rintro e w' ⟨rfl, rfl⟩)
      go_ret
      exact ⟨ret_bool HF.out.symm, (by repeat (first | (with_reducible exact Below.refl _ _) | (with_reducible refine below_ov ?_ ?_) | (with_reducible refine Below.setCell ?_ ?_ _) | (with_reducible refine Below.alloc ?_ ?_ _) | (with_reducible refine Below.drew ?_) | (with_reducible refine below_drewN ?_ _) | (refine Below.trans ?_ (Below.mono ‹Below _ _ _› (by first | omega | (simp; done) | (simp; omega)))) | exact Below.refl _ _ | omega | (focus (simp; done)) | (focus (simp; omega))))⟩
    | true =>
      have e1' := inB_iff.1 e1
      go_enter Tryd.func56, Tryd.ntmps56
      go_wp2_with (go_at_call 68; refine (inside_any _ _ _ _).mono ?_; rintro e w' ⟨rfl, rfl⟩)
      go_loopw [19] (fun i wr => ∃ k : Nat, k ≤ n ∧ i = .int .i64 k ∧ Hid (∀ j, j < k → rowB F j = true) ∧ Below w.heap.size w wr) (fun i _ => n - (intOf i).toNat)
      case atStart => exact ⟨0, by omega, rfl, fun j hj => by omega, Below.refl _ _⟩
      case round =>
        obtain ⟨k, hk, rfl, hj, hb⟩ := hrel
        have hzr := hb.size
        by_cases hkn : k < n
        · have c0' := (hb.cell (p := ⟨blk, off, none⟩) (show blk < _ by omega)).trans c0
          have ck : wr.cell? ⟨blk, off + k, none⟩ = some (.string (F k)) := by
            have := h3 k 0 hkn (by omega)
            simp only [Nat.mul_one, Nat.add_zero] at this
            exact (hb.cell (p := ⟨blk, off + k, none⟩) (show blk < _ by omega)).trans this
          have l0 : blk < wr.heap.size := by omega
          have zk := hsz k hkn
          clear c0 h3 hA
          cases e2 : ((F k).size == (F 0).size) with
          | false =>
            have HF : Hid (flB F n = false) := flB_no hkn (by simp at e2; simp [rowB, e2])
            have d2 : (((F k).size : Int) != ((F 0).size : Int)) = true := by simp at e2; simp; omega
            clear e2
            go_wp2_with fail
            go_ret
            exact ⟨ret_bool HF.out.symm, (by repeat (first | (with_reducible exact Below.refl _ _) | (with_reducible refine below_ov ?_ ?_) | (with_reducible refine Below.setCell ?_ ?_ _) | (with_reducible refine Below.alloc ?_ ?_ _) | (with_reducible refine Below.drew ?_) | (with_reducible refine below_drewN ?_ _) | (refine Below.trans ?_ (Below.mono ‹Below _ _ _› (by first | omega | (simp; done) | (simp; omega)))) | exact Below.refl _ _ | omega | (focus (simp; done)) | (focus (simp; omega))))⟩
          | true =>
            have d2 : (((F k).size : Int) != ((F 0).size : Int)) = false := by simp at e2; simp; omega
            have e2' : (F k).size = (F 0).size := by simpa using e2
            have HE2 := hide e2'
            clear e2 e2'
            go_wp2_with fail
            refine (Trim_any (F k) _ zk).mono ?_
            rintro e w2 ⟨⟨t, rfl, ht⟩, hb2⟩
            have hz2 := hb2.size
            cases e3 : allB (cel (F k)) (F k).size with
            | false =>
              have HF : Hid (flB F n = false) := flB_no hkn (by simp [rowB, e3])
              rw [e3] at ht
              have ht' : (!t.toList.isEmpty) = true := by simp [ht]
              clear e3
              go_wp2_with fail
              go_ret
              exact ⟨ret_bool HF.out.symm, (by repeat (first | (with_reducible exact Below.refl _ _) | (with_reducible refine below_ov ?_ ?_) | (with_reducible refine Below.setCell ?_ ?_ _) | (with_reducible refine Below.alloc ?_ ?_ _) | (with_reducible refine Below.drew ?_) | (with_reducible refine below_drewN ?_ _) | (refine Below.trans ?_ (Below.mono ‹Below _ _ _› (by first | omega | (simp; done) | (simp; omega)))) | exact Below.refl _ _ | omega | (focus (simp; done)) | (focus (simp; omega))))⟩
            | true =>
              have HG : Hid (rowB F k = true) := by show _ = _; rw [rowB, e3, HE2.out]; simp
              rw [e3] at ht
              have ht' : (!t.toList.isEmpty) = false := by simp [ht]
              clear e3
              go_wp2_with fail
              go_roundw
              case rel => exact ⟨k + 1, by omega, by go_num, upto_snoc hj.out HG.out, (by repeat (first | (with_reducible exact Below.refl _ _) | (with_reducible refine below_ov ?_ ?_) | (with_reducible refine Below.setCell ?_ ?_ _) | (with_reducible refine Below.alloc ?_ ?_ _) | (with_reducible refine Below.drew ?_) | (with_reducible refine below_drewN ?_ _) | (refine Below.trans ?_ (Below.mono ‹Below _ _ _› (by first | omega | (simp; done) | (simp; omega)))) | exact Below.refl _ _ | omega | (focus (simp; done)) | (focus (simp; omega))))⟩
              case measure => simp [intOf]; omega
        · obtain rfl : k = n := by omega
          have HF : Hid (flB F k = true) := by
            show _ = _
            rw [flB, allB_iff.2 hj.out, e0, e1]; rfl
          go_wp2_with fail
          go_ret
          exact ⟨ret_bool HF.out.symm, hb⟩
set_option maxRecDepth 100000 in
set_option maxHeartbeats 1600000 in
theorem seGood_any (F : Nat → ByteArray) (n lo hi : Nat) (v : Value) (w : World) (hv : Sl w lo hi 1 v n (sC F)) (hhi : hi ≤ w.heap.size) (hf : ffits F n) :
    Calls Tryd.prog 52 #[v] w fun e w' => e = .returned (.bool (flB F n)) ∧ Below w.heap.size w w' := by
  obtain ⟨A, cap, rfl, hcap, hA⟩ := hv.open_
  obtain ⟨hn, hsz⟩ := hf
  cases e0 : inB n 1 12 with
  | false =>
    have HF : Hid (flB F n = false) := by show _ = _; simp [flB, e0]
    go_enter Tryd.func52, Tryd.ntmps52
    go_wp2_with (go_at_call 66; refine (l1In_any _ _ _ _).mono ?_; rintro e w' ⟨rfl, rfl⟩)
    go_ret
    exact ⟨ret_bool HF.out.symm, (by repeat (first | (with_reducible exact Below.refl _ _) | (with_reducible refine below_ov ?_ ?_) | (with_reducible refine Below.setCell ?_ ?_ _) | (with_reducible refine Below.alloc ?_ ?_ _) | (with_reducible refine Below.drew ?_) | (with_reducible refine below_drewN ?_ _) | (refine Below.trans ?_ (Below.mono ‹Below _ _ _› (by first | omega | (simp; done) | (simp; omega)))) | exact Below.refl _ _ | omega | (focus (simp; done)) | (focus (simp; omega))))⟩
  | true =>
    have e0' := inB_iff.1 e0
    have hn0 : 0 < n := by omega
    have z0 := hsz 0 hn0
    unfold maxLen at z0
    obtain ⟨blk, off, rfl, h1, h2, h3⟩ := hA hn0
    have c0 : w.cell? ⟨blk, off, none⟩ = some (.string (F 0)) := by simpa [sC] using h3 0 0 hn0 (by omega)
    cases e1 : inB (F 0).size 1 12 with
    | false =>
      have HF : Hid (flB F n = false) := by show _ = _; simp [flB, e1]
      go_enter Tryd.func52, Tryd.ntmps52
      go_wp2_with (go_at_call 66; refine (l1In_any _ _ _ _).mono ?_; rintro e w' ⟨rfl, rfl⟩)
      go_ret
      exact ⟨ret_bool HF.out.symm, (by repeat (first | (with_reducible exact Below.refl _ _) | (with_reducible refine below_ov ?_ ?_) | (with_reducible refine Below.setCell ?_ ?_ _) | (with_reducible refine Below.alloc ?_ ?_ _) | (with_reducible refine Below.drew ?_) | (with_reducible refine below_drewN ?_ _) | (refine Below.trans ?_ (Below.mono ‹Below _ _ _› (by first | omega | (simp; done) | (simp; omega)))) | exact Below.refl _ _ | omega | (focus (simp; done)) | (focus (simp; omega))))⟩
    | true =>
      have e1' := inB_iff.1 e1
      go_enter Tryd.func52, Tryd.ntmps52
      go_wp2_with (go_at_call 66; refine (l1In_any _ _ _ _).mono ?_; rintro e w' ⟨rfl, rfl⟩)
      go_loopw [20] (fun i wr => ∃ k : Nat, k ≤ n ∧ i = .int .i64 k ∧ Hid (∀ j, j < k → rowB F j = true) ∧ Below w.heap.size w wr) (fun i _ => n - (intOf i).toNat)
      case atStart => exact ⟨0, by omega, rfl, fun j hj => by omega, Below.refl _ _⟩
      case round =>
        obtain ⟨k, hk, rfl, hj, hb⟩ := hrel
        have hzr := hb.size
        by_cases hkn : k < n
        · have c0' := (hb.cell (p := ⟨blk, off, none⟩) (show blk < _ by omega)).trans c0
          have ck : wr.cell? ⟨blk, off + k, none⟩ = some (.string (F k)) := by
            have := h3 k 0 hkn (by omega)
            simp only [Nat.mul_one, Nat.add_zero] at this
            exact (hb.cell (p := ⟨blk, off + k, none⟩) (show blk < _ by omega)).trans this
          have l0 : blk < wr.heap.size := by omega
          have zk := hsz k hkn
          clear c0 h3 hA
          cases e2 : ((F k).size == (F 0).size) with
          | false =>
            have HF : Hid (flB F n = false) := flB_no hkn (by simp at e2; simp [rowB, e2])
            have d2 : (((F k).size : Int) != ((F 0).size : Int)) = true := by simp at e2; simp; omega
            clear e2
            go_wp2_with fail
            go_ret
            exact ⟨ret_bool HF.out.symm, (by repeat (first | (with_reducible exact Below.refl _ _) | (with_reducible refine below_ov ?_ ?_) | (with_reducible refine Below.setCell ?_ ?_ _) | (with_reducible refine Below.alloc ?_ ?_ _) | (with_reducible refine Below.drew ?_) | (with_reducible refine below_drewN ?_ _) | (refine Below.trans ?_ (Below.mono ‹Below _ _ _› (by first | omega | (simp; done) | (simp; omega)))) | exact Below.refl _ _ | omega | (focus (simp; done)) | (focus (simp; omega))))⟩
          | true =>
            have d2 : (((F k).size : Int) != ((F 0).size : Int)) = false := by simp at e2; simp; omega
            have e2' : (F k).size = (F 0).size := by simpa using e2
            have HE2 := hide e2'
            clear e2 e2'
            go_wp2_with fail
            obtain ⟨wo, ewo⟩ : ∃ wo : World, wo = wr := ⟨_, rfl⟩
            subst ewo
            have hbo := hb
            unfold maxLen at zk
            go_loopw [5] (fun i wr => ∃ m : Nat, m ≤ (F k).size ∧ i = .int .i64 m ∧ Hid (∀ j, j < m → cel (F k) j = true) ∧ Below w.heap.size w wr) (fun i _ => (F k).size - (intOf i).toNat)
            case atStart => exact ⟨0, by omega, rfl, fun j hj => by omega, hbo⟩
            case round =>
              clear hb hzr
              obtain ⟨m, hm, rfl, hjm, hb⟩ := hrel
              by_cases hmn : m < (F k).size
              · have hby := byteAt_eq hmn
                by_cases i46 : byteAt (F k) m = 46
                · have HG : Hid (cel (F k) m = true) := cel_iff.2 (.inl i46)
                  have d3 : (((F k)[m].toNat : Int) != 46) = false := by simp; omega
                  clear hby i46
                  go_wp2_with fail
                  go_roundw
                  case rel => exact ⟨m + 1, by omega, by go_num, upto_snoc hjm.out HG.out, (by repeat (first | (with_reducible exact Below.refl _ _) | (with_reducible refine below_ov ?_ ?_) | (with_reducible refine Below.setCell ?_ ?_ _) | (with_reducible refine Below.alloc ?_ ?_ _) | (with_reducible refine Below.drew ?_) | (with_reducible refine below_drewN ?_ _) | (refine Below.trans ?_ (Below.mono ‹Below _ _ _› (by first | omega | (simp; done) | (simp; omega)))) | exact Below.refl _ _ | omega | (focus (simp; done)) | (focus (simp; omega))))⟩
                  case measure => simp [intOf]; omega
                · by_cases i35 : byteAt (F k) m = 35
                  · have HG : Hid (cel (F k) m = true) := cel_iff.2 (.inr i35)
                    have d3 : (((F k)[m].toNat : Int) != 46) = true := by simp; omega
                    have d4 : (((F k)[m].toNat : Int) != 35) = false := by simp; omega
                    clear hby i46 i35
                    go_wp2_with fail
                    go_roundw
                    case rel => exact ⟨m + 1, by omega, by go_num, upto_snoc hjm.out HG.out, (by repeat (first | (with_reducible exact Below.refl _ _) | (with_reducible refine below_ov ?_ ?_) | (with_reducible refine Below.setCell ?_ ?_ _) | (with_reducible refine Below.alloc ?_ ?_ _) | (with_reducible refine Below.drew ?_) | (with_reducible refine below_drewN ?_ _) | (refine Below.trans ?_ (Below.mono ‹Below _ _ _› (by first | omega | (simp; done) | (simp; omega)))) | exact Below.refl _ _ | omega | (focus (simp; done)) | (focus (simp; omega))))⟩
                    case measure => simp [intOf]; omega
                  · have HF : Hid (flB F n = false) := flB_no hkn (by simp [rowB, allB_false hmn (cel_no i46 i35)])
                    have d3 : (((F k)[m].toNat : Int) != 46) = true := by simp; omega
                    have d4 : (((F k)[m].toNat : Int) != 35) = true := by simp; omega
                    clear hby i46 i35
                    go_wp2_with fail
                    go_ret
                    exact ⟨ret_bool HF.out.symm, (by repeat (first | (with_reducible exact Below.refl _ _) | (with_reducible refine below_ov ?_ ?_) | (with_reducible refine Below.setCell ?_ ?_ _) | (with_reducible refine Below.alloc ?_ ?_ _) | (with_reducible refine Below.drew ?_) | (with_reducible refine below_drewN ?_ _) | (refine Below.trans ?_ (Below.mono ‹Below _ _ _› (by first | omega | (simp; done) | (simp; omega)))) | exact Below.refl _ _ | omega | (focus (simp; done)) | (focus (simp; omega))))⟩
              · obtain rfl : m = (F k).size := by omega
                have HG : Hid (rowB F k = true) := by show _ = _; rw [rowB, allB_iff.2 hjm.out, HE2.out]; simp
                go_wp2_with fail
                go_roundw
                case rel => exact ⟨k + 1, by omega, by go_num, upto_snoc hj.out HG.out, (by repeat (first | (with_reducible exact Below.refl _ _) | (with_reducible refine below_ov ?_ ?_) | (with_reducible refine Below.setCell ?_ ?_ _) | (with_reducible refine Below.alloc ?_ ?_ _) | (with_reducible refine Below.drew ?_) | (with_reducible refine below_drewN ?_ _) | (refine Below.trans ?_ (Below.mono ‹Below _ _ _› (by first | omega | (simp; done) | (simp; omega)))) | exact Below.refl _ _ | omega | (focus (simp; done)) | (focus (simp; omega))))⟩
                case measure => simp [intOf]; omega
        · obtain rfl : k = n := by omega
          have HF : Hid (flB F k = true) := by
            show _ = _
            rw [flB, allB_iff.2 hj.out, e0, e1]; rfl
          go_wp2_with fail
          go_ret
          exact ⟨ret_bool HF.out.symm, hb⟩

theorem IsFloor_impl (F : Nat → ByteArray) (n lo hi : Nat) (v : Value) (w : World) (hv : Sl w lo hi 1 v n (sC F)) (hhi : hi ≤ w.heap.size) (hf : ffits F n) :
    Calls Tryd.prog 45 #[v] w fun e w' => e = .returned (.bool (flB F n)) ∧ Below w.heap.size w w' := by
  obtain ⟨A, cap, rfl, hcap, hA⟩ := hv.open_
  go_enter Tryd.func45, Tryd.ntmps45
  go_wp2_with (go_at_call 56; refine (isFloor_any F n lo hi _ _ hv hhi hf).mono ?_; rintro e w1 ⟨rfl, hb1⟩; have hz1 := hb1.size; (try (simp at hz1)); obtain ⟨hcw1, hfw1⟩ := bcell hb1; (try (have hy1 : w.heap.size < w1.heap.size := by omega)); (try (have hyy1 : w.heap.size + 1 < w1.heap.size := by omega)); (try (have hyyy1 : w.heap.size + 1 + 1 < w1.heap.size := by omega)))
  go_ret
  exact ⟨rfl, (by repeat (first | (with_reducible exact Below.refl _ _) | (with_reducible refine below_ov ?_ ?_) | (with_reducible refine Below.setCell ?_ ?_ _) | (with_reducible refine Below.alloc ?_ ?_ _) | (with_reducible refine Below.drew ?_) | (with_reducible refine below_drewN ?_ _) | (refine Below.trans ?_ (Below.mono ‹Below _ _ _› (by first | omega | (simp; done) | (simp; omega)))) | exact Below.refl _ _ | omega | (focus (simp; done)) | (focus (simp; omega))))⟩

end Go.Proofs.YtpckhpkbdanjoaaDoor

/-
  Walks: an open cell; a step; the number of a cell.-/
namespace Go.Proofs.YtpckhpkbdanjoaaDoor
set_option linter.unusedVariables false
set_option linter.unusedSimpArgs false
open Go.RowKit

set_option maxRecDepth 100000 in
set_option maxHeartbeats 1600000 in
theorem isOpen_any (F : Nat → ByteArray) (n : Nat) (r c : Int) (lo hi : Nat) (v : Value) (w : World) (hv : Sl w lo hi 1 v n (sC F)) (hhi : hi ≤ w.heap.size) (hg : flB F n = true) :
    Calls Tryd.prog 59 #[v, .agg #[.int .i64 r, .int .i64 c]] w fun e w' => e = .returned (.bool (opB F n r c)) ∧ Below w.heap.size w w' := by
  obtain ⟨A, cap, rfl, hcap, hA⟩ := hv.open_
  obtain ⟨g1, g2, g3, g4, g5, _⟩ := flB_facts hg
  obtain ⟨blk, off, rfl, h1, h2, h3⟩ := hA (by omega)
  have c0 : w.cell? ⟨blk, off, none⟩ = some (.string (F 0)) := by simpa [sC] using h3 0 0 (by omega) (by omega)
  have l0 : blk < w.heap.size := by omega
  have z1 : IntKind.i64.wrap ((n : Int) - 1) = (n : Int) - 1 := IntWalk.i64_in _ (by omega)
  have z2 : IntKind.i64.wrap (((F 0).size : Int) - 1) = ((F 0).size : Int) - 1 := IntWalk.i64_in _ (by omega)
  clear hg hA hv
  cases e1 : inB r 0 ((n : Int) - 1) with
  | false =>
    have HX : Hid (opB F n r c = false) := by show _ = _; simp [opB, e1]
    clear g5 h3
    go_enter Tryd.func59, Tryd.ntmps59
    go_wp2_with fail
    (refine wp_region_below_lit (by kernel_rfl) (by kernel_rfl) ?_; (repeat (first | go_big_quiet_step ((go_at_call 68; exact quiet_ov_same (inside_any _ _ _ _))) | quiet_step ((go_at_call 68; exact quiet_ov_same (inside_any _ _ _ _))))); refine wpQuiet_nil ?_; intro w2 hb2; have hz2 := hb2.size; (try (simp at hz2)); obtain ⟨hcw2, hfw2⟩ := bcell hb2; (try (have hy2 : w.heap.size < w2.heap.size := by omega)); (try (have hyy2 : w.heap.size + 1 < w2.heap.size := by omega)))
    go_wp2_with fail
    go_ret
    exact ⟨ret_bool HX.out.symm, (by repeat (first | (with_reducible exact Below.refl _ _) | (with_reducible refine below_ov ?_ ?_) | (with_reducible refine Below.setCell ?_ ?_ _) | (with_reducible refine Below.alloc ?_ ?_ _) | (with_reducible refine Below.drew ?_) | (with_reducible refine below_drewN ?_ _) | (refine Below.trans ?_ (Below.mono ‹Below _ _ _› (by first | omega | (simp; done) | (simp; omega)))) | exact Below.refl _ _ | omega | (focus (simp; done)) | (focus (simp; omega))))⟩
  | true =>
    cases e2 : inB c 0 (((F 0).size : Int) - 1) with
    | false =>
      have HX : Hid (opB F n r c = false) := by show _ = _; simp [opB, e2]
      clear g5 h3
      go_enter Tryd.func59, Tryd.ntmps59
      go_wp2_with fail
      (refine wp_region_below_lit (by kernel_rfl) (by kernel_rfl) ?_; (repeat (first | go_big_quiet_step ((go_at_call 68; exact quiet_ov_same (inside_any _ _ _ _))) | quiet_step ((go_at_call 68; exact quiet_ov_same (inside_any _ _ _ _))))); refine wpQuiet_nil ?_; intro w2 hb2; have hz2 := hb2.size; (try (simp at hz2)); obtain ⟨hcw2, hfw2⟩ := bcell hb2; (try (have hy2 : w.heap.size < w2.heap.size := by omega)); (try (have hyy2 : w.heap.size + 1 < w2.heap.size := by omega)))
      go_wp2_with fail
      go_ret
      exact ⟨ret_bool HX.out.symm, (by repeat (first | (with_reducible exact Below.refl _ _) | (with_reducible refine below_ov ?_ ?_) | (with_reducible refine Below.setCell ?_ ?_ _) | (with_reducible refine Below.alloc ?_ ?_ _) | (with_reducible refine Below.drew ?_) | (with_reducible refine below_drewN ?_ _) | (refine Below.trans ?_ (Below.mono ‹Below _ _ _› (by first | omega | (simp; done) | (simp; omega)))) | exact Below.refl _ _ | omega | (focus (simp; done)) | (focus (simp; omega))))⟩
    | true =>
      have f1 := inB_iff.1 e1
      have f2 := inB_iff.1 e2
      obtain ⟨i, rfl⟩ : ∃ i : Nat, r = i := ⟨r.toNat, by omega⟩
      obtain ⟨j, rfl⟩ : ∃ j : Nat, c = j := ⟨c.toNat, by omega⟩
      have ck : w.cell? ⟨blk, off + i, none⟩ = some (.string (F i)) := by
        have := h3 i 0 (by omega) (by omega)
        simpa [sC] using this
      have hin : i < n := by omega
      have hj : j < (F i).size := by rw [g5 i hin]; omega
      have hzi : (F i).size ≤ 12 := by rw [g5 i hin]; omega
      have hby := byteAt_eq hj
      have HX : Hid (opB F n i j = decide (byteAt (F i) j = 46)) := by show _ = _; simp [opB, e1, e2]
      cases e3 : decide (byteAt (F i) j = 46) with
      | false =>
        have d3 : (((F i)[j].toNat : Int) == 46) = false := by have := of_decide_eq_false e3; simp; omega
        rw [e3] at HX
        clear g5 h3 hby e3
        go_enter Tryd.func59, Tryd.ntmps59
        go_wp2_with fail
        (refine wp_region_below_lit (by kernel_rfl) (by kernel_rfl) ?_; (repeat (first | go_big_quiet_step ((go_at_call 68; exact quiet_ov_same (inside_any _ _ _ _))) | quiet_step ((go_at_call 68; exact quiet_ov_same (inside_any _ _ _ _))))); refine wpQuiet_nil ?_; intro w2 hb2; have hz2 := hb2.size; (try (simp at hz2)); obtain ⟨hcw2, hfw2⟩ := bcell hb2; (try (have hy2 : w.heap.size < w2.heap.size := by omega)); (try (have hyy2 : w.heap.size + 1 < w2.heap.size := by omega)))
        go_wp2_with fail
        go_ret
        exact ⟨ret_bool HX.out.symm, (by repeat (first | (with_reducible exact Below.refl _ _) | (with_reducible refine below_ov ?_ ?_) | (with_reducible refine Below.setCell ?_ ?_ _) | (with_reducible refine Below.alloc ?_ ?_ _) | (with_reducible refine Below.drew ?_) | (with_reducible refine below_drewN ?_ _) | (refine Below.trans ?_ (Below.mono ‹Below _ _ _› (by first | omega | (simp; done) | (simp; omega)))) | exact Below.refl _ _ | omega | (focus (simp; done)) | (focus (simp; omega))))⟩
      | true =>
        have d3 : (((F i)[j].toNat : Int) == 46) = true := by have := of_decide_eq_true e3; simp; omega
        rw [e3] at HX
        clear g5 h3 hby e3
        go_enter Tryd.func59, Tryd.ntmps59
        go_wp2_with fail
        (refine wp_region_below_lit (by kernel_rfl) (by kernel_rfl) ?_; (repeat (first | go_big_quiet_step ((go_at_call 68; exact quiet_ov_same (inside_any _ _ _ _))) | quiet_step ((go_at_call 68; exact quiet_ov_same (inside_any _ _ _ _))))); refine wpQuiet_nil ?_; intro w2 hb2; have hz2 := hb2.size; (try (simp at hz2)); obtain ⟨hcw2, hfw2⟩ := bcell hb2; (try (have hy2 : w.heap.size < w2.heap.size := by omega)); (try (have hyy2 : w.heap.size + 1 < w2.heap.size := by omega)))
        go_wp2_with fail
        go_ret
        exact ⟨ret_bool HX.out.symm, (by repeat (first | (with_reducible exact Below.refl _ _) | (with_reducible refine below_ov ?_ ?_) | (with_reducible refine Below.setCell ?_ ?_ _) | (with_reducible refine Below.alloc ?_ ?_ _) | (with_reducible refine Below.drew ?_) | (with_reducible refine below_drewN ?_ _) | (refine Below.trans ?_ (Below.mono ‹Below _ _ _› (by first | omega | (simp; done) | (simp; omega)))) | exact Below.refl _ _ | omega | (focus (simp; done)) | (focus (simp; omega))))⟩
set_option maxRecDepth 100000 in
set_option maxHeartbeats 1600000 in
theorem seOpen_any (F : Nat → ByteArray) (n : Nat) (r c : Int) (lo hi : Nat) (v : Value) (w : World) (hv : Sl w lo hi 1 v n (sC F)) (hhi : hi ≤ w.heap.size) (hg : flB F n = true) :
    Calls Tryd.prog 53 #[v, .agg #[.int .i64 r, .int .i64 c]] w fun e w' => e = .returned (.bool (opB F n r c)) ∧ Below w.heap.size w w' := by
  obtain ⟨A, cap, rfl, hcap, hA⟩ := hv.open_
  obtain ⟨g1, g2, g3, g4, g5, _⟩ := flB_facts hg
  obtain ⟨blk, off, rfl, h1, h2, h3⟩ := hA (by omega)
  have c0 : w.cell? ⟨blk, off, none⟩ = some (.string (F 0)) := by simpa [sC] using h3 0 0 (by omega) (by omega)
  have l0 : blk < w.heap.size := by omega
  have z1 : IntKind.i64.wrap ((n : Int) - 1) = (n : Int) - 1 := IntWalk.i64_in _ (by omega)
  have z2 : IntKind.i64.wrap (((F 0).size : Int) - 1) = ((F 0).size : Int) - 1 := IntWalk.i64_in _ (by omega)
  clear hg hA hv
  cases e1 : inB r 0 ((n : Int) - 1) with
  | false =>
    have HX : Hid (opB F n r c = false) := by show _ = _; simp [opB, e1]
    clear g5 h3
    go_enter Tryd.func53, Tryd.ntmps53
    go_wp2_with fail
    (refine wp_region_below_lit (by kernel_rfl) (by kernel_rfl) ?_; (repeat (first | go_big_quiet_step ((go_at_call 66; exact quiet_ov_same (l1In_any _ _ _ _))) | quiet_step ((go_at_call 66; exact quiet_ov_same (l1In_any _ _ _ _))))); refine wpQuiet_nil ?_; intro w2 hb2; have hz2 := hb2.size; (try (simp at hz2)); obtain ⟨hcw2, hfw2⟩ := bcell hb2; (try (have hy2 : w.heap.size < w2.heap.size := by omega)); (try (have hyy2 : w.heap.size + 1 < w2.heap.size := by omega)))
    go_wp2_with fail
    go_ret
    exact ⟨ret_bool HX.out.symm, (by repeat (first | (with_reducible exact Below.refl _ _) | (with_reducible refine below_ov ?_ ?_) | (with_reducible refine Below.setCell ?_ ?_ _) | (with_reducible refine Below.alloc ?_ ?_ _) | (with_reducible refine Below.drew ?_) | (with_reducible refine below_drewN ?_ _) | (refine Below.trans ?_ (Below.mono ‹Below _ _ _› (by first | omega | (simp; done) | (simp; omega)))) | exact Below.refl _ _ | omega | (focus (simp; done)) | (focus (simp; omega))))⟩
  | true =>
    cases e2 : inB c 0 (((F 0).size : Int) - 1) with
    | false =>
      have HX : Hid (opB F n r c = false) := by show _ = _; simp [opB, e2]
      clear g5 h3
      go_enter Tryd.func53, Tryd.ntmps53
      go_wp2_with fail
      (refine wp_region_below_lit (by kernel_rfl) (by kernel_rfl) ?_; (repeat (first | go_big_quiet_step ((go_at_call 66; exact quiet_ov_same (l1In_any _ _ _ _))) | quiet_step ((go_at_call 66; exact quiet_ov_same (l1In_any _ _ _ _))))); refine wpQuiet_nil ?_; intro w2 hb2; have hz2 := hb2.size; (try (simp at hz2)); obtain ⟨hcw2, hfw2⟩ := bcell hb2; (try (have hy2 : w.heap.size < w2.heap.size := by omega)); (try (have hyy2 : w.heap.size + 1 < w2.heap.size := by omega)))
      go_wp2_with fail
      go_ret
      exact ⟨ret_bool HX.out.symm, (by repeat (first | (with_reducible exact Below.refl _ _) | (with_reducible refine below_ov ?_ ?_) | (with_reducible refine Below.setCell ?_ ?_ _) | (with_reducible refine Below.alloc ?_ ?_ _) | (with_reducible refine Below.drew ?_) | (with_reducible refine below_drewN ?_ _) | (refine Below.trans ?_ (Below.mono ‹Below _ _ _› (by first | omega | (simp; done) | (simp; omega)))) | exact Below.refl _ _ | omega | (focus (simp; done)) | (focus (simp; omega))))⟩
    | true =>
      have f1 := inB_iff.1 e1
      have f2 := inB_iff.1 e2
      obtain ⟨i, rfl⟩ : ∃ i : Nat, r = i := ⟨r.toNat, by omega⟩
      obtain ⟨j, rfl⟩ : ∃ j : Nat, c = j := ⟨c.toNat, by omega⟩
      have ck : w.cell? ⟨blk, off + i, none⟩ = some (.string (F i)) := by
        have := h3 i 0 (by omega) (by omega)
        simpa [sC] using this
      have hin : i < n := by omega
      have hj : j < (F i).size := by rw [g5 i hin]; omega
      have hzi : (F i).size ≤ 12 := by rw [g5 i hin]; omega
      have hby := byteAt_eq hj
      have HX : Hid (opB F n i j = decide (byteAt (F i) j = 46)) := by show _ = _; simp [opB, e1, e2]
      cases e3 : decide (byteAt (F i) j = 46) with
      | false =>
        have d3 : (((F i)[j].toNat : Int) == 46) = false := by have := of_decide_eq_false e3; simp; omega
        rw [e3] at HX
        clear g5 h3 hby e3
        go_enter Tryd.func53, Tryd.ntmps53
        go_wp2_with fail
        (refine wp_region_below_lit (by kernel_rfl) (by kernel_rfl) ?_; (repeat (first | go_big_quiet_step ((go_at_call 66; exact quiet_ov_same (l1In_any _ _ _ _))) | quiet_step ((go_at_call 66; exact quiet_ov_same (l1In_any _ _ _ _))))); refine wpQuiet_nil ?_; intro w2 hb2; have hz2 := hb2.size; (try (simp at hz2)); obtain ⟨hcw2, hfw2⟩ := bcell hb2; (try (have hy2 : w.heap.size < w2.heap.size := by omega)); (try (have hyy2 : w.heap.size + 1 < w2.heap.size := by omega)))
        go_wp2_with fail
        go_ret
        exact ⟨ret_bool HX.out.symm, (by repeat (first | (with_reducible exact Below.refl _ _) | (with_reducible refine below_ov ?_ ?_) | (with_reducible refine Below.setCell ?_ ?_ _) | (with_reducible refine Below.alloc ?_ ?_ _) | (with_reducible refine Below.drew ?_) | (with_reducible refine below_drewN ?_ _) | (refine Below.trans ?_ (Below.mono ‹Below _ _ _› (by first | omega | (simp; done) | (simp; omega)))) | exact Below.refl _ _ | omega | (focus (simp; done)) | (focus (simp; omega))))⟩
      | true =>
        have d3 : (((F i)[j].toNat : Int) == 46) = true := by have := of_decide_eq_true e3; simp; omega
        rw [e3] at HX
        clear g5 h3 hby e3
        go_enter Tryd.func53, Tryd.ntmps53
        go_wp2_with fail
        (refine wp_region_below_lit (by kernel_rfl) (by kernel_rfl) ?_; (repeat (first | go_big_quiet_step ((go_at_call 66; exact quiet_ov_same (l1In_any _ _ _ _))) | quiet_step ((go_at_call 66; exact quiet_ov_same (l1In_any _ _ _ _))))); refine wpQuiet_nil ?_; intro w2 hb2; have hz2 := hb2.size; (try (simp at hz2)); obtain ⟨hcw2, hfw2⟩ := bcell hb2; (try (have hy2 : w.heap.size < w2.heap.size := by omega)); (try (have hyy2 : w.heap.size + 1 < w2.heap.size := by omega)))
        go_wp2_with fail
        go_ret
        exact ⟨ret_bool HX.out.symm, (by repeat (first | (with_reducible exact Below.refl _ _) | (with_reducible refine below_ov ?_ ?_) | (with_reducible refine Below.setCell ?_ ?_ _) | (with_reducible refine Below.alloc ?_ ?_ _) | (with_reducible refine Below.drew ?_) | (with_reducible refine below_drewN ?_ _) | (refine Below.trans ?_ (Below.mono ‹Below _ _ _› (by first | omega | (simp; done) | (simp; omega)))) | exact Below.refl _ _ | omega | (focus (simp; done)) | (focus (simp; omega))))⟩
/-- The letter of a direction. -/
def dL (d : Nat) : Int := if d = 0 then 110 else if d = 1 then 101 else if d = 2 then 115 else 119
set_option maxRecDepth 100000 in
set_option maxHeartbeats 1600000 in
theorem stepTo_any (r c : Int) (d : Nat) (w : World) (hd : d < 4) (hr : -1000 ≤ r) (hr' : r ≤ 1000) (hc : -1000 ≤ c) (hc' : c ≤ 1000) :
    Calls Tryd.prog 75 #[.agg #[.int .i64 r, .int .i64 c], .int .u8 (dL d)] w fun e w' => e = .returned (.agg #[.int .i64 (stp (r, c) d).1, .int .i64 (stp (r, c) d).2]) ∧ Below w.heap.size w w' := by
  have h4 : d = 0 ∨ d = 1 ∨ d = 2 ∨ d = 3 := by omega
  rcases h4 with rfl | rfl | rfl | rfl
  · have e : dL 0 = 110 := rfl
    have HE : Hid ((stp (r, c) 0).1 = r - 1 ∧ (stp (r, c) 0).2 = c) := ⟨by simp [stp, dR]; omega, by simp [stp, dC]⟩
    rw [e, HE.out.1, HE.out.2]
    go_enter Tryd.func75, Tryd.ntmps75
    go_wp2_with fail
    exact bodyPost_ret (v := .agg #[.int .i64 (r - 1), .int .i64 c]) (by simp [results, Tryd.results75, go_sem, *]) rfl ⟨rfl, (by repeat (first | (with_reducible exact Below.refl _ _) | (with_reducible refine below_ov ?_ ?_) | (with_reducible refine Below.setCell ?_ ?_ _) | (with_reducible refine Below.alloc ?_ ?_ _) | (with_reducible refine Below.drew ?_) | (with_reducible refine below_drewN ?_ _) | (refine Below.trans ?_ (Below.mono ‹Below _ _ _› (by first | omega | (simp; done) | (simp; omega)))) | exact Below.refl _ _ | omega | (focus (simp; done)) | (focus (simp; omega))))⟩
  · have e : dL 1 = 101 := rfl
    have HE : Hid ((stp (r, c) 1).1 = r ∧ (stp (r, c) 1).2 = c + 1) := ⟨by simp [stp, dR], by simp [stp, dC]⟩
    rw [e, HE.out.1, HE.out.2]
    go_enter Tryd.func75, Tryd.ntmps75
    go_wp2_with fail
    exact bodyPost_ret (v := .agg #[.int .i64 r, .int .i64 (c + 1)]) (by simp [results, Tryd.results75, go_sem, *]) rfl ⟨rfl, (by repeat (first | (with_reducible exact Below.refl _ _) | (with_reducible refine below_ov ?_ ?_) | (with_reducible refine Below.setCell ?_ ?_ _) | (with_reducible refine Below.alloc ?_ ?_ _) | (with_reducible refine Below.drew ?_) | (with_reducible refine below_drewN ?_ _) | (refine Below.trans ?_ (Below.mono ‹Below _ _ _› (by first | omega | (simp; done) | (simp; omega)))) | exact Below.refl _ _ | omega | (focus (simp; done)) | (focus (simp; omega))))⟩
  · have e : dL 2 = 115 := rfl
    have HE : Hid ((stp (r, c) 2).1 = r + 1 ∧ (stp (r, c) 2).2 = c) := ⟨by simp [stp, dR], by simp [stp, dC]⟩
    rw [e, HE.out.1, HE.out.2]
    go_enter Tryd.func75, Tryd.ntmps75
    go_wp2_with fail
    exact bodyPost_ret (v := .agg #[.int .i64 (r + 1), .int .i64 c]) (by simp [results, Tryd.results75, go_sem, *]) rfl ⟨rfl, (by repeat (first | (with_reducible exact Below.refl _ _) | (with_reducible refine below_ov ?_ ?_) | (with_reducible refine Below.setCell ?_ ?_ _) | (with_reducible refine Below.alloc ?_ ?_ _) | (with_reducible refine Below.drew ?_) | (with_reducible refine below_drewN ?_ _) | (refine Below.trans ?_ (Below.mono ‹Below _ _ _› (by first | omega | (simp; done) | (simp; omega)))) | exact Below.refl _ _ | omega | (focus (simp; done)) | (focus (simp; omega))))⟩
  · have e : dL 3 = 119 := rfl
    have HE : Hid ((stp (r, c) 3).1 = r ∧ (stp (r, c) 3).2 = c - 1) := ⟨by simp [stp, dR], by simp [stp, dC]; omega⟩
    rw [e, HE.out.1, HE.out.2]
    go_enter Tryd.func75, Tryd.ntmps75
    go_wp2_with fail
    exact bodyPost_ret (v := .agg #[.int .i64 r, .int .i64 (c - 1)]) (by simp [results, Tryd.results75, go_sem, *]) rfl ⟨rfl, (by repeat (first | (with_reducible exact Below.refl _ _) | (with_reducible refine below_ov ?_ ?_) | (with_reducible refine Below.setCell ?_ ?_ _) | (with_reducible refine Below.alloc ?_ ?_ _) | (with_reducible refine Below.drew ?_) | (with_reducible refine below_drewN ?_ _) | (refine Below.trans ?_ (Below.mono ‹Below _ _ _› (by first | omega | (simp; done) | (simp; omega)))) | exact Below.refl _ _ | omega | (focus (simp; done)) | (focus (simp; omega))))⟩
set_option maxRecDepth 100000 in
set_option maxHeartbeats 1600000 in
theorem seStep_any (r c : Int) (d : Nat) (w : World) (hd : d < 4) (hr : -1000 ≤ r) (hr' : r ≤ 1000) (hc : -1000 ≤ c) (hc' : c ≤ 1000) :
    Calls Tryd.prog 85 #[.agg #[.int .i64 r, .int .i64 c], .int .i64 d] w fun e w' => e = .returned (.agg #[.int .i64 (stp (r, c) d).1, .int .i64 (stp (r, c) d).2]) ∧ Below w.heap.size w w' := by
  have h4 : d = 0 ∨ d = 1 ∨ d = 2 ∨ d = 3 := by omega
  rcases h4 with rfl | rfl | rfl | rfl
  · have HE : Hid ((stp (r, c) 0).1 = r - 1 ∧ (stp (r, c) 0).2 = c) := ⟨by simp [stp, dR]; omega, by simp [stp, dC]⟩
    rw [HE.out.1, HE.out.2]
    go_enter Tryd.func85, Tryd.ntmps85
    go_wp2_with fail
    exact bodyPost_ret (v := .agg #[.int .i64 (r - 1), .int .i64 c]) (by simp [results, Tryd.results85, go_sem, *]) rfl ⟨rfl, (by repeat (first | (with_reducible exact Below.refl _ _) | (with_reducible refine below_ov ?_ ?_) | (with_reducible refine Below.setCell ?_ ?_ _) | (with_reducible refine Below.alloc ?_ ?_ _) | (with_reducible refine Below.drew ?_) | (with_reducible refine below_drewN ?_ _) | (refine Below.trans ?_ (Below.mono ‹Below _ _ _› (by first | omega | (simp; done) | (simp; omega)))) | exact Below.refl _ _ | omega | (focus (simp; done)) | (focus (simp; omega))))⟩
  · have HE : Hid ((stp (r, c) 1).1 = r ∧ (stp (r, c) 1).2 = c + 1) := ⟨by simp [stp, dR], by simp [stp, dC]⟩
    rw [HE.out.1, HE.out.2]
    go_enter Tryd.func85, Tryd.ntmps85
    go_wp2_with fail
    exact bodyPost_ret (v := .agg #[.int .i64 r, .int .i64 (c + 1)]) (by simp [results, Tryd.results85, go_sem, *]) rfl ⟨rfl, (by repeat (first | (with_reducible exact Below.refl _ _) | (with_reducible refine below_ov ?_ ?_) | (with_reducible refine Below.setCell ?_ ?_ _) | (with_reducible refine Below.alloc ?_ ?_ _) | (with_reducible refine Below.drew ?_) | (with_reducible refine below_drewN ?_ _) | (refine Below.trans ?_ (Below.mono ‹Below _ _ _› (by first | omega | (simp; done) | (simp; omega)))) | exact Below.refl _ _ | omega | (focus (simp; done)) | (focus (simp; omega))))⟩
  · have HE : Hid ((stp (r, c) 2).1 = r + 1 ∧ (stp (r, c) 2).2 = c) := ⟨by simp [stp, dR], by simp [stp, dC]⟩
    rw [HE.out.1, HE.out.2]
    go_enter Tryd.func85, Tryd.ntmps85
    go_wp2_with fail
    exact bodyPost_ret (v := .agg #[.int .i64 (r + 1), .int .i64 c]) (by simp [results, Tryd.results85, go_sem, *]) rfl ⟨rfl, (by repeat (first | (with_reducible exact Below.refl _ _) | (with_reducible refine below_ov ?_ ?_) | (with_reducible refine Below.setCell ?_ ?_ _) | (with_reducible refine Below.alloc ?_ ?_ _) | (with_reducible refine Below.drew ?_) | (with_reducible refine below_drewN ?_ _) | (refine Below.trans ?_ (Below.mono ‹Below _ _ _› (by first | omega | (simp; done) | (simp; omega)))) | exact Below.refl _ _ | omega | (focus (simp; done)) | (focus (simp; omega))))⟩
  · have HE : Hid ((stp (r, c) 3).1 = r ∧ (stp (r, c) 3).2 = c - 1) := ⟨by simp [stp, dR], by simp [stp, dC]; omega⟩
    rw [HE.out.1, HE.out.2]
    go_enter Tryd.func85, Tryd.ntmps85
    go_wp2_with fail
    exact bodyPost_ret (v := .agg #[.int .i64 r, .int .i64 (c - 1)]) (by simp [results, Tryd.results85, go_sem, *]) rfl ⟨rfl, (by repeat (first | (with_reducible exact Below.refl _ _) | (with_reducible refine below_ov ?_ ?_) | (with_reducible refine Below.setCell ?_ ?_ _) | (with_reducible refine Below.alloc ?_ ?_ _) | (with_reducible refine Below.drew ?_) | (with_reducible refine below_drewN ?_ _) | (refine Below.trans ?_ (Below.mono ‹Below _ _ _› (by first | omega | (simp; done) | (simp; omega)))) | exact Below.refl _ _ | omega | (focus (simp; done)) | (focus (simp; omega))))⟩
theorem mulN_bd {i n W : Nat} (h : i < n) (h2 : n ≤ 12) (h4 : W ≤ 12) : (0 : Int) ≤ (i : Int) * (W : Int) ∧ (i : Int) * (W : Int) ≤ 144 := by
  have h5 : i * W ≤ 12 * 12 := Nat.mul_le_mul (by omega) h4
  have h6 : ((i * W : Nat) : Int) = (i : Int) * (W : Int) := by push_cast; rfl
  omega
set_option maxRecDepth 100000 in
set_option maxHeartbeats 1600000 in
theorem seIndex_any (F : Nat → ByteArray) (n : Nat) (r c : Int) (lo hi : Nat) (v : Value) (w : World) (hv : Sl w lo hi 1 v n (sC F)) (hhi : hi ≤ w.heap.size) (hg : flB F n = true) (ho : opB F n r c = true) :
    Calls Tryd.prog 91 #[v, .agg #[.int .i64 r, .int .i64 c]] w fun e w' => e = .returned (.int .i64 (ixF F (r, c))) ∧ Below w.heap.size w w' := by
  obtain ⟨A, cap, rfl, hcap, hA⟩ := hv.open_
  obtain ⟨g1, g2, g3, g4, _, _⟩ := flB_facts hg
  obtain ⟨blk, off, rfl, h1, h2, h3⟩ := hA (by omega)
  have c0 : w.cell? ⟨blk, off, none⟩ = some (.string (F 0)) := by simpa [sC] using h3 0 0 (by omega) (by omega)
  have l0 : blk < w.heap.size := by omega
  have HE : Hid (r * ((F 0).size : Int) + c = (ixF F (r, c) : Int)) := ix_cast (p := (r, c)) ho
  obtain ⟨i, j, rfl, rfl, f1, f2, _⟩ := opB_nat ho
  have hm := mulN_bd f1 g2 g4
  have z1 : IntKind.i64.wrap ((i : Int) * ((F 0).size : Int)) = (i : Int) * ((F 0).size : Int) := IntWalk.i64_in _ (by omega)
  have z2 : IntKind.i64.wrap ((i : Int) * ((F 0).size : Int) + (j : Int)) = (i : Int) * ((F 0).size : Int) + (j : Int) := IntWalk.i64_in _ (by omega)
  clear hg hA hv h3 ho hm
  go_enter Tryd.func91, Tryd.ntmps91
  go_wp2_with fail
  (refine wp_region_below_lit (by kernel_rfl) (by kernel_rfl) ?_; (repeat (first | go_big_quiet_step ((fail)) | quiet_step ((fail)))); refine wpQuiet_nil ?_; intro w2 hb2; have hz2 := hb2.size; (try (simp at hz2)); obtain ⟨hcw2, hfw2⟩ := bcell hb2; (try (have hy2 : w.heap.size < w2.heap.size := by omega)); (try (have hyy2 : w.heap.size + 1 < w2.heap.size := by omega)))
  go_wp2_with fail
  go_ret
  exact ⟨ret_int HE.out, (by repeat (first | (with_reducible exact Below.refl _ _) | (with_reducible refine below_ov ?_ ?_) | (with_reducible refine Below.setCell ?_ ?_ _) | (with_reducible refine Below.alloc ?_ ?_ _) | (with_reducible refine Below.drew ?_) | (with_reducible refine below_drewN ?_ _) | (refine Below.trans ?_ (Below.mono ‹Below _ _ _› (by first | omega | (simp; done) | (simp; omega)))) | exact Below.refl _ _ | omega | (focus (simp; done)) | (focus (simp; omega))))⟩
def ioR (F : Nat → ByteArray) (n : Nat) (r c : Int) : Bool := flB F n && opB F n r c
set_option maxRecDepth 100000 in
set_option maxHeartbeats 1600000 in
theorem IsOpenCell_impl (F : Nat → ByteArray) (n : Nat) (r c : Int) (lo hi : Nat) (v : Value) (w : World) (hv : Sl w lo hi 1 v n (sC F)) (hhi : hi ≤ w.heap.size) (hf : ffits F n) :
    Calls Tryd.prog 42 #[v, .agg #[.int .i64 r, .int .i64 c]] w fun e w' => e = .returned (.tuple #[.bool (ioR F n r c), .bool (flB F n)]) ∧ Below w.heap.size w w' := by
  obtain ⟨A, cap, rfl, hcap, hA⟩ := hv.open_
  cases e1 : flB F n with
  | false =>
    have HX : Hid (ioR F n r c = false) := by show _ = _; rw [ioR, e1]; rfl
    go_enter Tryd.func42, Tryd.ntmps42
    go_wp2_with fail
    refine (isFloor_any F n lo hi _ _ (hv.below (B := w.heap.size) (by repeat (first | (with_reducible exact Below.refl _ _) | (with_reducible refine below_ov ?_ ?_) | (with_reducible refine Below.setCell ?_ ?_ _) | (with_reducible refine Below.alloc ?_ ?_ _) | (with_reducible refine Below.drew ?_) | (with_reducible refine below_drewN ?_ _) | (refine Below.trans ?_ (Below.mono ‹Below _ _ _› (by first | omega | (simp; done) | (simp; omega)))) | exact Below.refl _ _ | omega | (focus (simp; done)) | (focus (simp; omega)))) hhi) (by first | omega | (simp; done) | (simp; omega)) hf).mono ?_
    rintro e w1 ⟨rfl, hb1⟩
    have hz1 := hb1.size
    rw [e1]
    go_wp2_with fail
    go_ret2
    rw [HX.out]
    exact ⟨rfl, (by repeat (first | (with_reducible exact Below.refl _ _) | (with_reducible refine below_ov ?_ ?_) | (with_reducible refine Below.setCell ?_ ?_ _) | (with_reducible refine Below.alloc ?_ ?_ _) | (with_reducible refine Below.drew ?_) | (with_reducible refine below_drewN ?_ _) | (refine Below.trans ?_ (Below.mono ‹Below _ _ _› (by first | omega | (simp; done) | (simp; omega)))) | exact Below.refl _ _ | omega | (focus (simp; done)) | (focus (simp; omega))))⟩
  | true =>
    have HX : Hid (ioR F n r c = opB F n r c) := by show _ = _; rw [ioR, e1]; rfl
    have HG := hide e1
    go_enter Tryd.func42, Tryd.ntmps42
    go_wp2_with fail
    refine (isFloor_any F n lo hi _ _ (hv.below (B := w.heap.size) (by repeat (first | (with_reducible exact Below.refl _ _) | (with_reducible refine below_ov ?_ ?_) | (with_reducible refine Below.setCell ?_ ?_ _) | (with_reducible refine Below.alloc ?_ ?_ _) | (with_reducible refine Below.drew ?_) | (with_reducible refine below_drewN ?_ _) | (refine Below.trans ?_ (Below.mono ‹Below _ _ _› (by first | omega | (simp; done) | (simp; omega)))) | exact Below.refl _ _ | omega | (focus (simp; done)) | (focus (simp; omega)))) hhi) (by first | omega | (simp; done) | (simp; omega)) hf).mono ?_
    rintro e w1 ⟨rfl, hb1⟩
    have hz1 := hb1.size
    (try (simp at hz1))
    rw [e1]
    clear e1
    have px0 := (hb1.cell (p := ⟨w.heap.size, 0, none⟩) (by simp)).trans (World.cell?_alloc_new _ _ _ _)
    have px1 := (hb1.cell (p := ⟨w.heap.size, 1, none⟩) (by simp)).trans (World.cell?_alloc_new _ _ _ _)
    simp at px0 px1
    have lp : w.heap.size < w1.heap.size := by omega
    go_wp2_with fail
    refine (isOpen_any F n r c lo hi _ _ (hv.below (B := w.heap.size) (by repeat (first | (with_reducible exact Below.refl _ _) | (with_reducible refine below_ov ?_ ?_) | (with_reducible refine Below.setCell ?_ ?_ _) | (with_reducible refine Below.alloc ?_ ?_ _) | (with_reducible refine Below.drew ?_) | (with_reducible refine below_drewN ?_ _) | (refine Below.trans ?_ (Below.mono ‹Below _ _ _› (by first | omega | (simp; done) | (simp; omega)))) | exact Below.refl _ _ | omega | (focus (simp; done)) | (focus (simp; omega)))) hhi) (by first | omega | (simp; done) | (simp; omega)) HG.out).mono ?_
    rintro e w2 ⟨rfl, hb2⟩
    have hz2 := hb2.size
    go_wp2_with fail
    go_ret2
    rw [HX.out]
    exact ⟨rfl, (by repeat (first | (with_reducible exact Below.refl _ _) | (with_reducible refine below_ov ?_ ?_) | (with_reducible refine Below.setCell ?_ ?_ _) | (with_reducible refine Below.alloc ?_ ?_ _) | (with_reducible refine Below.drew ?_) | (with_reducible refine below_drewN ?_ _) | (refine Below.trans ?_ (Below.mono ‹Below _ _ _› (by first | omega | (simp; done) | (simp; omega)))) | exact Below.refl _ _ | omega | (focus (simp; done)) | (focus (simp; omega))))⟩
set_option maxRecDepth 100000 in
set_option maxHeartbeats 1600000 in
theorem IsOpenCell_spec (F : Nat → ByteArray) (n : Nat) (r c : Int) (lo hi : Nat) (v : Value) (w : World) (hv : Sl w lo hi 1 v n (sC F)) (hhi : hi ≤ w.heap.size) (hf : ffits F n) :
    Calls Tryd.prog 43 #[v, .agg #[.int .i64 r, .int .i64 c]] w fun e w' => e = .returned (.tuple #[.bool (ioR F n r c), .bool (flB F n)]) ∧ Below w.heap.size w w' := by
  obtain ⟨A, cap, rfl, hcap, hA⟩ := hv.open_
  cases e1 : flB F n with
  | false =>
    have HX : Hid (ioR F n r c = false) := by show _ = _; rw [ioR, e1]; rfl
    go_enter Tryd.func43, Tryd.ntmps43
    go_wp2_with fail
    refine (seGood_any F n lo hi _ _ (hv.below (B := w.heap.size) (by repeat (first | (with_reducible exact Below.refl _ _) | (with_reducible refine below_ov ?_ ?_) | (with_reducible refine Below.setCell ?_ ?_ _) | (with_reducible refine Below.alloc ?_ ?_ _) | (with_reducible refine Below.drew ?_) | (with_reducible refine below_drewN ?_ _) | (refine Below.trans ?_ (Below.mono ‹Below _ _ _› (by first | omega | (simp; done) | (simp; omega)))) | exact Below.refl _ _ | omega | (focus (simp; done)) | (focus (simp; omega)))) hhi) (by first | omega | (simp; done) | (simp; omega)) hf).mono ?_
    rintro e w1 ⟨rfl, hb1⟩
    have hz1 := hb1.size
    rw [e1]
    go_wp2_with fail
    go_ret2
    rw [HX.out]
    exact ⟨rfl, (by repeat (first | (with_reducible exact Below.refl _ _) | (with_reducible refine below_ov ?_ ?_) | (with_reducible refine Below.setCell ?_ ?_ _) | (with_reducible refine Below.alloc ?_ ?_ _) | (with_reducible refine Below.drew ?_) | (with_reducible refine below_drewN ?_ _) | (refine Below.trans ?_ (Below.mono ‹Below _ _ _› (by first | omega | (simp; done) | (simp; omega)))) | exact Below.refl _ _ | omega | (focus (simp; done)) | (focus (simp; omega))))⟩
  | true =>
    have HX : Hid (ioR F n r c = opB F n r c) := by show _ = _; rw [ioR, e1]; rfl
    have HG := hide e1
    go_enter Tryd.func43, Tryd.ntmps43
    go_wp2_with fail
    refine (seGood_any F n lo hi _ _ (hv.below (B := w.heap.size) (by repeat (first | (with_reducible exact Below.refl _ _) | (with_reducible refine below_ov ?_ ?_) | (with_reducible refine Below.setCell ?_ ?_ _) | (with_reducible refine Below.alloc ?_ ?_ _) | (with_reducible refine Below.drew ?_) | (with_reducible refine below_drewN ?_ _) | (refine Below.trans ?_ (Below.mono ‹Below _ _ _› (by first | omega | (simp; done) | (simp; omega)))) | exact Below.refl _ _ | omega | (focus (simp; done)) | (focus (simp; omega)))) hhi) (by first | omega | (simp; done) | (simp; omega)) hf).mono ?_
    rintro e w1 ⟨rfl, hb1⟩
    have hz1 := hb1.size
    (try (simp at hz1))
    rw [e1]
    clear e1
    have px0 := (hb1.cell (p := ⟨w.heap.size, 0, none⟩) (by simp)).trans (World.cell?_alloc_new _ _ _ _)
    have px1 := (hb1.cell (p := ⟨w.heap.size, 1, none⟩) (by simp)).trans (World.cell?_alloc_new _ _ _ _)
    simp at px0 px1
    have lp : w.heap.size < w1.heap.size := by omega
    go_wp2_with fail
    refine (seOpen_any F n r c lo hi _ _ (hv.below (B := w.heap.size) (by repeat (first | (with_reducible exact Below.refl _ _) | (with_reducible refine below_ov ?_ ?_) | (with_reducible refine Below.setCell ?_ ?_ _) | (with_reducible refine Below.alloc ?_ ?_ _) | (with_reducible refine Below.drew ?_) | (with_reducible refine below_drewN ?_ _) | (refine Below.trans ?_ (Below.mono ‹Below _ _ _› (by first | omega | (simp; done) | (simp; omega)))) | exact Below.refl _ _ | omega | (focus (simp; done)) | (focus (simp; omega)))) hhi) (by first | omega | (simp; done) | (simp; omega)) HG.out).mono ?_
    rintro e w2 ⟨rfl, hb2⟩
    have hz2 := hb2.size
    go_wp2_with fail
    go_ret2
    rw [HX.out]
    exact ⟨rfl, (by repeat (first | (with_reducible exact Below.refl _ _) | (with_reducible refine below_ov ?_ ?_) | (with_reducible refine Below.setCell ?_ ?_ _) | (with_reducible refine Below.alloc ?_ ?_ _) | (with_reducible refine Below.drew ?_) | (with_reducible refine below_drewN ?_ _) | (refine Below.trans ?_ (Below.mono ‹Below _ _ _› (by first | omega | (simp; done) | (simp; omega)))) | exact Below.refl _ _ | omega | (focus (simp; done)) | (focus (simp; omega))))⟩

end Go.Proofs.YtpckhpkbdanjoaaDoor

/-
  Rows of the call's own, element by element; an append that tells where the row lies behind it.-/
namespace Go.Proofs.YtpckhpkbdanjoaaDoor
set_option linter.unusedVariables false
set_option linter.unusedSimpArgs false
open Go.RowKit

/-- The cells of the first k elements, in a row. -/
def rowL (c : Nat → Nat → Value) (sz : Nat) : Nat → List Value
  | 0 => []
  | k + 1 => rowL c sz k ++ (List.range sz).map (c k)
theorem rowL_len (c : Nat → Nat → Value) (sz : Nat) : ∀ k, (rowL c sz k).length = k * sz
  | 0 => by simp [rowL]
  | k + 1 => by simp [rowL, rowL_len c sz k, Nat.succ_mul]
theorem rowL_get (c : Nat → Nat → Value) (sz : Nat) : ∀ {k i j : Nat}, i < k → j < sz → (rowL c sz k)[i * sz + j]? = some (c i j)
  | k + 1, i, j, hi, hj => by
    have hl := rowL_len c sz k
    rcases Nat.lt_or_ge i k with h | h
    · have := lin_lt h hj
      rw [rowL, List.getElem?_append_left (by omega)]
      exact rowL_get c sz h hj
    · obtain rfl : i = k := by omega
      rw [rowL, List.getElem?_append_right (by omega), hl, Nat.add_sub_cancel_left, List.getElem?_map, List.getElem?_range hj]
      rfl
theorem rowL_congr {c c' : Nat → Nat → Value} {sz : Nat} : ∀ {k : Nat}, (∀ i j, i < k → j < sz → c i j = c' i j) → rowL c sz k = rowL c' sz k
  | 0, _ => rfl
  | k + 1, h => by
    rw [rowL, rowL, rowL_congr (fun i j hi hj => h i j (by omega) hj)]
    congr 1
    apply List.map_congr_left
    intro j hj
    exact h k j (by omega) (List.mem_range.1 hj)
theorem rowL_mem {c : Nat → Nat → Value} {sz k : Nat} {u : Value} (h : u ∈ rowL c sz k) : ∃ i j, i < k ∧ j < sz ∧ u = c i j := by
  induction k with
  | zero => simp [rowL] at h
  | succ k ih =>
    rw [rowL, List.mem_append] at h
    rcases h with h | h
    · obtain ⟨i, j, h1, h2, h3⟩ := ih h
      exact ⟨i, j, by omega, h2, h3⟩
    · obtain ⟨j, hj, rfl⟩ := List.mem_map.1 h
      exact ⟨k, j, by omega, List.mem_range.1 hj, rfl⟩
/-- Two rows behind each other. -/
theorem rowL_app (c d : Nat → Nat → Value) (sz n : Nat) : ∀ m, rowL c sz n ++ rowL d sz m = rowL (fun i j => if i < n then c i j else d (i - n) j) sz (n + m)
  | 0 => by
    rw [rowL, List.append_nil, Nat.add_zero]
    exact rowL_congr fun i j hi _ => by simp [hi]
  | m + 1 => by
    rw [rowL, ← List.append_assoc, rowL_app c d sz n m, show n + (m + 1) = n + m + 1 by omega, rowL]
    congr 1
    apply List.map_congr_left
    intro j _
    have : ¬ n + m < n := by omega
    simp [this]
section
variable {w w' : World} {lo hi E sz n k : Nat} {v : Value} {c : Nat → Nat → Value}
theorem own_row (h : w.ownsRow lo E sz v n (rowL c sz n)) : Own w lo w.heap.size E sz v n n c := ⟨_, h, fun g hg => (h.lt g hg).2, fun i j hi hj => rowL_get c sz hi hj⟩
theorem Own.row (h : Own w lo hi E sz v n n c) : w.ownsRow lo E sz v n (rowL c sz n) := by
  obtain ⟨xs, h1, h2, h3⟩ := h
  have : xs = rowL c sz n := by
    apply List.ext_getElem?
    intro o
    rcases Nat.lt_or_ge o (n * sz) with ho | ho
    · have hsz : 0 < sz := by
        rcases Nat.eq_zero_or_pos sz with h0 | h0
        · subst h0; omega
        · exact h0
      have a1 : o / sz < n := (Nat.div_lt_iff_lt_mul hsz).2 ho
      have a2 := Nat.mod_lt o hsz
      have e1 := h3 _ _ a1 a2
      have e2 := rowL_get c sz a1 a2
      rw [Nat.div_add_mod'] at e1 e2
      rw [e1, e2]
    · rw [List.getElem?_eq_none (by rw [h1.1]; omega), List.getElem?_eq_none (by rw [rowL_len]; omega)]
  rw [← this]
  exact h1
theorem Sl.news {blk off cap : Nat} (h : Sl w lo hi sz (.slice (some ⟨blk, off, none⟩) n cap) n c) : ∀ j u, (rowL c sz n)[j]? = some u → w.cell? ((⟨blk, off, none⟩ : Addr).add j) = some u := by
  intro o u hu
  obtain ⟨A, cap', he, _, hA⟩ := h
  injection he with e1 _ _
  subst e1
  have ho : o < n * sz := by
    have := (List.getElem?_eq_some_iff.1 hu).1
    rwa [rowL_len] at this
  have hsz : 0 < sz := by
    rcases Nat.eq_zero_or_pos sz with h0 | h0
    · subst h0; omega
    · exact h0
  have a1 : o / sz < n := (Nat.div_lt_iff_lt_mul hsz).2 ho
  have a2 := Nat.mod_lt o hsz
  obtain ⟨b, f, e, _, _, hc⟩ := hA (Nat.lt_of_le_of_lt (Nat.zero_le _) a1)
  injection e with e
  injection e with e1 e2
  subst e1 e2
  have e3 := rowL_get c sz a1 a2
  rw [Nat.div_add_mod'] at e3
  rw [hu] at e3
  have e4 := hc _ _ a1 a2
  rw [Nat.add_assoc, Nat.div_add_mod'] at e4
  rw [Addr.add_lit, e4, e3]
/-- Rows whose elements are of two types lie in two blocks. -/
theorem OwnL.apart {a b E' sz' n' K K' : Nat} {u : Value} {cc cc' : Nat → Value} (h : OwnL w a (a + 1) E sz v n K cc) (h' : OwnL w b (b + 1) E' sz' u n' K' cc') (hn : 0 < n) (hn' : 0 < n') (hE : E ≠ E') : a ≠ b := by
  rcases h with ⟨h0, _⟩ | ⟨g, cap, xs, rfl, h1, h2, h3, ⟨_, h4⟩, _⟩
  · omega
  rcases h' with ⟨h0, _⟩ | ⟨g', cap', xs', rfl, h1', h2', h3', ⟨_, h4'⟩, _⟩
  · omega
  obtain rfl : g = a := by omega
  obtain rfl : g' = b := by omega
  rcases h4 with ⟨h4, _⟩ | ⟨x, _, cur, he, _, hh, _⟩
  · cases h4
  rcases h4' with ⟨h4', _⟩ | ⟨x', _, cur', he', _, hh', _⟩
  · cases h4'
  injection he with e1 _ _
  injection e1 with e1
  injection e1 with e1
  injection he' with e2 _ _
  injection e2 with e2
  injection e2 with e2
  subst e1 e2
  intro e
  subst e
  rw [hh] at hh'
  injection hh' with hh'
  injection hh' with _ e3 _
  exact hE e3
end
/-- An append onto a row of the call's own: in its own block, or in a new one. -/
theorem wpList_append_two {P : Program} (w : World) {ops : Array Oper} {rest : List Oper} {o : Oper} {a : Act} {Q : Exit → Act → World → Prop} (hgd : o.guard = none) (s x : Operand) (t : TypeId)
    (ho : o.op = .call { callee := .builtin .append, args := #[s, x], argTypes := #[t, t] })
    (base : Nat) (e : TypeId) (i : TypeInfo) (z : Value) (size bytes : Nat) (ht : P.underlying t = some (.slice e)) (hi : P.info? e = some i) (hz : i.zero = some z)
    (hsize : i.size = size) (hby : i.bytes = bytes) (hzs : z.cells.size = size) (hsz : 0 < size)
    (v : Value) (n : Nat) (xs : List Value) (hs : a.eval s = v) (hown : w.ownsRow base e size v n xs)
    (ad : Addr) (m c : Nat) (news : List Value) (hx : a.eval x = .slice (some ad) m c) (hl : news.length = m * size) (hnews : ∀ j u, news[j]? = some u → w.cell? (ad.add j) = some u) (h1 : ∀ u ∈ news, u.oneCell' = true) (hm : 0 < m)
    (h63 : n + m ≤ maxLen) (hbytes : (n + m) * bytes ≤ 140737488355328)
    (h : ∀ v' w', ((v'.ownBlock = v.ownBlock ∧ w'.ownsRow base e size v' (n + m) (xs ++ news) ∧ w.grownBy w' v.ownBlock) ∨ (w'.ownsRow w.heap.size e size v' (n + m) (xs ++ news) ∧ w.grownBy w' none)) → wpList P ops Q rest (a.put o.dst v') w') : wpList P ops Q (o :: rest) a w := by
  rcases hown.2 with ⟨rfl, rfl⟩ | ⟨g, cap, cur, rfl, hbg, hg, hnc, hcm, hcs, htake⟩
  · refine wpList_append_grows w hgd s x t ho e i z size bytes ht hi hz hsize hby hzs hsz none 0 0 [] hs (fun _ => ⟨rfl, rfl⟩) (by simp) (fun b hb => by cases hb) ad m c news hx hl hnews h1 (by omega) h63 hbytes ?_
    intro v' w' r1 r2
    have hx0 : xs = [] := List.eq_nil_of_length_eq_zero (by simpa using hown.1)
    subst hx0
    exact h v' w' (.inr ⟨r1, r2⟩)
  · by_cases hroom : n + m ≤ cap
    · refine wpList_append_own_spare w hgd s x t ho base e i size ht hi hsize g n cap xs hs hown ad m c news hx hl hnews h1 hroom ?_
      intro w' r1 r2
      exact h _ w' (.inl ⟨rfl, r1, r2⟩)
    · refine wpList_append_grows w hgd s x t ho e i z size bytes ht hi hz hsize hby hzs hsz (some ⟨g, 0, none⟩) n cap xs hs (fun h => by cases h) hown.1 (fun b hb => by cases hb; exact hown.cells rfl) ad m c news hx hl hnews h1 (by omega) h63 hbytes ?_
      intro v' w' r1 r2
      exact h v' w' (.inr ⟨r1, r2⟩)

end Go.Proofs.YtpckhpkbdanjoaaDoor
