/-
  Walks: the reference's check of a channel.
-/
import Derived.Test.YtkikjneamjmdlaaWMsgL
namespace Go.Proofs.Ytkikjneamjmdlaa
set_option linter.unusedVariables false
set_option linter.unusedSimpArgs false
open Go.RowKit

/-- A list of messages: names, numbers, bodies, how many. -/
structure Ms where
  f : Nat → ByteArray
  m : Nat → Int
  g : Nat → ByteArray
  n : Nat
def Ms.c (M : Ms) : Nat → Nat → Value := sisC M.f M.m M.g
/-- It can lie in memory. -/
def Ms.fits (M : Ms) : Prop := M.n ≤ 1048576 ∧ ∀ i, i < M.n → (M.f i).size ≤ maxLen ∧ (M.g i).size ≤ maxLen
def chanB (S R H : Ms) : Bool := allB (sent1 msgB S.f S.m S.g) S.n && decide ((S.n : Int) ≤ 30) && allB (wi S.f S.m S.g S.n R.f R.m R.g) R.n && allB (wi R.f R.m R.g R.n H.f H.m H.g) H.n

set_option maxRecDepth 100000 in
set_option maxHeartbeats 3200000 in
theorem raGood_any (S R H : Ms) (lo hi : Nat) (vS vR vH : Value) (w : World) (hS : Sl w lo hi 3 vS S.n S.c) (hR : Sl w lo hi 3 vR R.n R.c) (hH : Sl w lo hi 3 vH H.n H.c) (hhi : hi ≤ w.heap.size) (fS : S.fits) (fR : R.fits) (fH : H.fits) :
    Calls Try.prog 14 #[.agg #[vS, vR, vH]] w fun e w' => e = .returned (.bool (chanB S R H)) ∧ Below w.heap.size w w' := by
  obtain ⟨A, cap, rfl, hcap, hA⟩ := hS.open_
  have hn := fS.1
  have hsz := fS.2
  clear hS
  go_enter Try.func14, Try.ntmps14
  go_wp2_with fail
  go_loopw [8] (fun i wr => ∃ k : Nat, k ≤ S.n ∧ i = .int .i64 k ∧ Hid (∀ j, j < k → sent1 msgB S.f S.m S.g j = true) ∧ Below (w.alloc (.cells #[.slice A S.n cap, vR, vH] 30)).heap.size (w.alloc (.cells #[.slice A S.n cap, vR, vH] 30)) wr) (fun i _ => S.n - (intOf i).toNat)
  case atStart => exact ⟨0, by omega, rfl, fun j hj => by omega, Below.refl _ _⟩
  case round =>
    obtain ⟨k, hk, rfl, hj, hb0⟩ := hrel
    have hzr := hb0.size
    simp at hzr
    have x0 := box_cell hb0 (by simp) 0 rfl
    have x1 := box_cell hb0 (by simp) 1 rfl
    have x2 := box_cell hb0 (by simp) 2 rfl
    simp at x0 x1 x2
    have hb : Below w.heap.size w wr := (Below.refl _ _).alloc (Nat.le_refl _) _ |>.trans (hb0.mono (by simp))
    have l0 : w.heap.size < wr.heap.size := by omega
    by_cases hkn : k < S.n
    · have hpre := (hA.less (Nat.le_of_lt hkn))
      obtain ⟨blk, off, rfl, h1, h2, h3⟩ := (hA.below hb (by omega)) (by omega)
      have c0 : wr.cell? ⟨blk, off + k * 3, none⟩ = some (.string (S.f k)) := h3 k 0 hkn (by omega)
      have c1 : wr.cell? ⟨blk, off + k * 3 + 1, none⟩ = some (.int .i64 (S.m k)) := h3 k 1 hkn (by omega)
      have c2 : wr.cell? ⟨blk, off + k * 3 + 2, none⟩ = some (.string (S.g k)) := h3 k 2 hkn (by omega)
      clear h3
      obtain ⟨z1, z2⟩ := hsz k hkn
      have l3 : blk < wr.heap.size := by omega
      have l4 : k ≤ cap := by omega
      have l5 : (k : Int) ≤ (cap : Int) := by omega
      have hle := cntF_le (nm S.f (S.f k)) k
      cases e1 : msgB (S.f k) (S.m k) (S.g k) with
      | false =>
        have HF : Hid (chanB S R H = false) := by
          show chanB S R H = false
          rw [chanB, allB_false hkn (by simp [sent1, e1])]; rfl
        go_wp2_with fail
        (refine wp_region_below_lit (by kernel_rfl) (by kernel_rfl) ?_; (repeat (first | go_big_quiet_step ((go_at_call 25; exact quiet_ov ((raOne_any _ _ _ _ z1 z2)))) | quiet_step ((go_at_call 25; exact quiet_ov ((raOne_any _ _ _ _ z1 z2)))))); refine wpQuiet_nil ?_; intro w2 hb2; have hz2 := hb2.size; (try (simp at hz2)); obtain ⟨hcw2, hfw2⟩ := bcell hb2; (try (have hy2 : w.heap.size < w2.heap.size := by omega)); (try (have hyy2 : w.heap.size + 1 < w2.heap.size := by omega)))
        go_wp2
        go_ret
        exact ⟨ret_bool HF.out.symm, (by repeat (first | (with_reducible exact Below.refl _ _) | (with_reducible refine below_ov ?_ ?_) | (with_reducible refine Below.setCell ?_ ?_ _) | (with_reducible refine Below.alloc ?_ ?_ _) | (with_reducible refine Below.drew ?_) | (with_reducible refine below_drewN ?_ _) | (refine Below.trans ?_ (Below.mono ‹Below _ _ _› (by first | omega | (simp; done) | (simp; omega)))) | exact Below.refl _ _ | omega | (focus (simp; done)) | (focus (simp; omega))))⟩
      | true =>
        cases e2 : (S.m k != ((cntF (nm S.f (S.f k)) k : Nat) : Int) + 1) with
        | true =>
          have HF : Hid (chanB S R H = false) := by
            show chanB S R H = false
            rw [chanB, allB_false hkn (by rw [bne_iff_ne] at e2; simp [sent1, e1, e2])]; rfl
          go_wp2_with fail
          (refine wp_region_below_lit (by kernel_rfl) (by kernel_rfl) ?_; (repeat (first | go_big_quiet_step ((first | (go_at_call 25; exact quiet_ov ((raOne_any _ _ _ _ z1 z2))) | (go_at_call 26; exact quiet_ov ((raCount_any S.f S.m S.g k lo hi _ _ _ (SlA.shut (hpre.below (B := w.heap.size) (by repeat (first | (with_reducible exact Below.refl _ _) | (with_reducible refine below_ov ?_ ?_) | (with_reducible refine Below.setCell ?_ ?_ _) | (with_reducible refine Below.alloc ?_ ?_ _) | (with_reducible refine Below.drew ?_) | (with_reducible refine below_drewN ?_ _) | (refine Below.trans ?_ (Below.mono ‹Below _ _ _› (by first | omega | (simp; done) | (simp; omega)))) | exact Below.refl _ _ | omega | (focus (simp; done)) | (focus (simp; omega)))) hhi) (by omega)) (by simp [ov]; omega) (by omega)))))) | quiet_step ((first | (go_at_call 25; exact quiet_ov ((raOne_any _ _ _ _ z1 z2))) | (go_at_call 26; exact quiet_ov ((raCount_any S.f S.m S.g k lo hi _ _ _ (SlA.shut (hpre.below (B := w.heap.size) (by repeat (first | (with_reducible exact Below.refl _ _) | (with_reducible refine below_ov ?_ ?_) | (with_reducible refine Below.setCell ?_ ?_ _) | (with_reducible refine Below.alloc ?_ ?_ _) | (with_reducible refine Below.drew ?_) | (with_reducible refine below_drewN ?_ _) | (refine Below.trans ?_ (Below.mono ‹Below _ _ _› (by first | omega | (simp; done) | (simp; omega)))) | exact Below.refl _ _ | omega | (focus (simp; done)) | (focus (simp; omega)))) hhi) (by omega)) (by simp [ov]; omega) (by omega)))))))); refine wpQuiet_nil ?_; intro w2 hb2; have hz2 := hb2.size; (try (simp at hz2)); obtain ⟨hcw2, hfw2⟩ := bcell hb2; (try (have hy2 : w.heap.size < w2.heap.size := by omega)); (try (have hyy2 : w.heap.size + 1 < w2.heap.size := by omega)))
          go_wp2
          go_ret
          exact ⟨ret_bool HF.out.symm, (by repeat (first | (with_reducible exact Below.refl _ _) | (with_reducible refine below_ov ?_ ?_) | (with_reducible refine Below.setCell ?_ ?_ _) | (with_reducible refine Below.alloc ?_ ?_ _) | (with_reducible refine Below.drew ?_) | (with_reducible refine below_drewN ?_ _) | (refine Below.trans ?_ (Below.mono ‹Below _ _ _› (by first | omega | (simp; done) | (simp; omega)))) | exact Below.refl _ _ | omega | (focus (simp; done)) | (focus (simp; omega))))⟩
        | false =>
          have HG : Hid (sent1 msgB S.f S.m S.g k = true) := by
            show sent1 msgB S.f S.m S.g k = true
            simp only [bne_eq_false_iff_eq] at e2; simp [sent1, e1, ← e2]
          go_wp2_with fail
          (refine wp_region_below_lit (by kernel_rfl) (by kernel_rfl) ?_; (repeat (first | go_big_quiet_step ((first | (go_at_call 25; exact quiet_ov ((raOne_any _ _ _ _ z1 z2))) | (go_at_call 26; exact quiet_ov ((raCount_any S.f S.m S.g k lo hi _ _ _ (SlA.shut (hpre.below (B := w.heap.size) (by repeat (first | (with_reducible exact Below.refl _ _) | (with_reducible refine below_ov ?_ ?_) | (with_reducible refine Below.setCell ?_ ?_ _) | (with_reducible refine Below.alloc ?_ ?_ _) | (with_reducible refine Below.drew ?_) | (with_reducible refine below_drewN ?_ _) | (refine Below.trans ?_ (Below.mono ‹Below _ _ _› (by first | omega | (simp; done) | (simp; omega)))) | exact Below.refl _ _ | omega | (focus (simp; done)) | (focus (simp; omega)))) hhi) (by omega)) (by simp [ov]; omega) (by omega)))))) | quiet_step ((first | (go_at_call 25; exact quiet_ov ((raOne_any _ _ _ _ z1 z2))) | (go_at_call 26; exact quiet_ov ((raCount_any S.f S.m S.g k lo hi _ _ _ (SlA.shut (hpre.below (B := w.heap.size) (by repeat (first | (with_reducible exact Below.refl _ _) | (with_reducible refine below_ov ?_ ?_) | (with_reducible refine Below.setCell ?_ ?_ _) | (with_reducible refine Below.alloc ?_ ?_ _) | (with_reducible refine Below.drew ?_) | (with_reducible refine below_drewN ?_ _) | (refine Below.trans ?_ (Below.mono ‹Below _ _ _› (by first | omega | (simp; done) | (simp; omega)))) | exact Below.refl _ _ | omega | (focus (simp; done)) | (focus (simp; omega)))) hhi) (by omega)) (by simp [ov]; omega) (by omega)))))))); refine wpQuiet_nil ?_; intro w2 hb2; have hz2 := hb2.size; (try (simp at hz2)); obtain ⟨hcw2, hfw2⟩ := bcell hb2; (try (have hy2 : w.heap.size < w2.heap.size := by omega)); (try (have hyy2 : w.heap.size + 1 < w2.heap.size := by omega)))
          go_wp2
          go_roundw
          case rel => exact ⟨k + 1, by omega, by go_num, upto_snoc hj.out HG.out, (by repeat (first | (with_reducible exact Below.refl _ _) | (with_reducible refine below_ov ?_ ?_) | (with_reducible refine Below.setCell ?_ ?_ _) | (with_reducible refine Below.alloc ?_ ?_ _) | (with_reducible refine Below.drew ?_) | (with_reducible refine below_drewN ?_ _) | (refine Below.trans ?_ (Below.mono ‹Below _ _ _› (by first | omega | (simp; done) | (simp; omega)))) | exact Below.refl _ _ | omega | (focus (simp; done)) | (focus (simp; omega))))⟩
          case measure => simp [intOf]; omega
    · obtain rfl : k = S.n := by omega
      have HS := hide (allB_iff.2 hj.out)
      cases e30 : decide ((S.n : Int) ≤ 30) with
      | false =>
        have HF : Hid (chanB S R H = false) := by
          show chanB S R H = false
          rw [chanB, HS.out, e30]; rfl
        have h30 := of_decide_eq_false e30
        go_wp2_with fail
        go_ret
        exact ⟨ret_bool HF.out.symm, hb⟩
      | true =>
        have h30 := of_decide_eq_true e30
        cases e31 : allB (wi S.f S.m S.g S.n R.f R.m R.g) R.n with
        | false =>
          have HF : Hid (chanB S R H = false) := by
            show chanB S R H = false
            rw [chanB, e31]; simp
          go_wp2_with (go_at_call 27; refine (raWithin_any R.f R.m R.g R.n S.f S.m S.g S.n lo hi _ _ _ (hR.below (B := w.heap.size) (by repeat (first | (with_reducible exact Below.refl _ _) | (with_reducible refine below_ov ?_ ?_) | (with_reducible refine Below.setCell ?_ ?_ _) | (with_reducible refine Below.alloc ?_ ?_ _) | (with_reducible refine Below.drew ?_) | (with_reducible refine below_drewN ?_ _) | (refine Below.trans ?_ (Below.mono ‹Below _ _ _› (by first | omega | (simp; done) | (simp; omega)))) | exact Below.refl _ _ | omega | (focus (simp; done)) | (focus (simp; omega)))) hhi) (SlA.shut (hA.below (B := w.heap.size) (by repeat (first | (with_reducible exact Below.refl _ _) | (with_reducible refine below_ov ?_ ?_) | (with_reducible refine Below.setCell ?_ ?_ _) | (with_reducible refine Below.alloc ?_ ?_ _) | (with_reducible refine Below.drew ?_) | (with_reducible refine below_drewN ?_ _) | (refine Below.trans ?_ (Below.mono ‹Below _ _ _› (by first | omega | (simp; done) | (simp; omega)))) | exact Below.refl _ _ | omega | (focus (simp; done)) | (focus (simp; omega)))) hhi) hcap) (by omega) (by have := fR.1; omega) (by omega)).mono ?_; rintro e w1 ⟨rfl, hb1⟩; have hz1 := hb1.size; (try (simp at hz1)); obtain ⟨hcw1, hfw1⟩ := bcell hb1; (try (have hy1 : w.heap.size < w1.heap.size := by omega)); (try (have hyy1 : w.heap.size + 1 < w1.heap.size := by omega)); (try (have hyyy1 : w.heap.size + 1 + 1 < w1.heap.size := by omega)))
          go_ret
          exact ⟨ret_bool HF.out.symm, (by repeat (first | (with_reducible exact Below.refl _ _) | (with_reducible refine below_ov ?_ ?_) | (with_reducible refine Below.setCell ?_ ?_ _) | (with_reducible refine Below.alloc ?_ ?_ _) | (with_reducible refine Below.drew ?_) | (with_reducible refine below_drewN ?_ _) | (refine Below.trans ?_ (Below.mono ‹Below _ _ _› (by first | omega | (simp; done) | (simp; omega)))) | exact Below.refl _ _ | omega | (focus (simp; done)) | (focus (simp; omega))))⟩
        | true =>
          have HE : Hid (chanB S R H = allB (wi R.f R.m R.g R.n H.f H.m H.g) H.n) := by
            show chanB S R H = _
            rw [chanB, HS.out, e30, e31]; rfl
          go_wp2_with fail
          refine (raWithin_any R.f R.m R.g R.n S.f S.m S.g S.n lo hi _ _ _ (hR.below (B := w.heap.size) (by repeat (first | (with_reducible exact Below.refl _ _) | (with_reducible refine below_ov ?_ ?_) | (with_reducible refine Below.setCell ?_ ?_ _) | (with_reducible refine Below.alloc ?_ ?_ _) | (with_reducible refine Below.drew ?_) | (with_reducible refine below_drewN ?_ _) | (refine Below.trans ?_ (Below.mono ‹Below _ _ _› (by first | omega | (simp; done) | (simp; omega)))) | exact Below.refl _ _ | omega | (focus (simp; done)) | (focus (simp; omega)))) hhi) (SlA.shut (hA.below (B := w.heap.size) (by repeat (first | (with_reducible exact Below.refl _ _) | (with_reducible refine below_ov ?_ ?_) | (with_reducible refine Below.setCell ?_ ?_ _) | (with_reducible refine Below.alloc ?_ ?_ _) | (with_reducible refine Below.drew ?_) | (with_reducible refine below_drewN ?_ _) | (refine Below.trans ?_ (Below.mono ‹Below _ _ _› (by first | omega | (simp; done) | (simp; omega)))) | exact Below.refl _ _ | omega | (focus (simp; done)) | (focus (simp; omega)))) hhi) hcap) (by omega) (by have := fR.1; omega) (by omega)).mono ?_
          rintro e w1 ⟨rfl, hb1⟩
          rw [e31]
          have hz1 := hb1.size
          obtain ⟨hcw1, hfw1⟩ := bcell hb1
          have y1 := (hcw1 w.heap.size 1 l0).trans x1
          have y2 := (hcw1 w.heap.size 2 l0).trans x2
          go_wp2_with fail
          refine (raWithin_any H.f H.m H.g H.n R.f R.m R.g R.n lo hi _ _ _ (hH.below (B := w.heap.size) (by repeat (first | (with_reducible exact Below.refl _ _) | (with_reducible refine below_ov ?_ ?_) | (with_reducible refine Below.setCell ?_ ?_ _) | (with_reducible refine Below.alloc ?_ ?_ _) | (with_reducible refine Below.drew ?_) | (with_reducible refine below_drewN ?_ _) | (refine Below.trans ?_ (Below.mono ‹Below _ _ _› (by first | omega | (simp; done) | (simp; omega)))) | exact Below.refl _ _ | omega | (focus (simp; done)) | (focus (simp; omega)))) hhi) (hR.below (B := w.heap.size) (by repeat (first | (with_reducible exact Below.refl _ _) | (with_reducible refine below_ov ?_ ?_) | (with_reducible refine Below.setCell ?_ ?_ _) | (with_reducible refine Below.alloc ?_ ?_ _) | (with_reducible refine Below.drew ?_) | (with_reducible refine below_drewN ?_ _) | (refine Below.trans ?_ (Below.mono ‹Below _ _ _› (by first | omega | (simp; done) | (simp; omega)))) | exact Below.refl _ _ | omega | (focus (simp; done)) | (focus (simp; omega)))) hhi) (by omega) (by have := fH.1; omega) (by have := fR.1; omega)).mono ?_
          rintro e w2 ⟨rfl, hb2⟩
          have hz2 := hb2.size
          go_wp2_with fail
          go_ret
          exact ⟨ret_bool HE.out.symm, (by repeat (first | (with_reducible exact Below.refl _ _) | (with_reducible refine below_ov ?_ ?_) | (with_reducible refine Below.setCell ?_ ?_ _) | (with_reducible refine Below.alloc ?_ ?_ _) | (with_reducible refine Below.drew ?_) | (with_reducible refine below_drewN ?_ _) | (refine Below.trans ?_ (Below.mono ‹Below _ _ _› (by first | omega | (simp; done) | (simp; omega)))) | exact Below.refl _ _ | omega | (focus (simp; done)) | (focus (simp; omega))))⟩

end Go.Proofs.Ytkikjneamjmdlaa
