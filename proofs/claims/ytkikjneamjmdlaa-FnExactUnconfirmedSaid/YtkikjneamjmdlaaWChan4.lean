/-
  Walks: how much of a budget lists of messages take; channels compared.
-/
import Derived.Test.YtkikjneamjmdlaaWChan3
namespace Go.Proofs.Ytkikjneamjmdlaa
set_option linter.unusedVariables false
set_option linter.unusedSimpArgs false
open Go.RowKit

/-- What is left of a budget behind k messages; below zero: -1 for ever. -/
def szK (left : Int) (a b : Nat → Nat) : Nat → Int
  | 0 => left
  | k + 1 => if szK left a b k < 0 then -1 else sz2F (szK left a b k) (a k) (b k)
def szMF (left : Int) (M : Ms) : Int := if left < M.n then -1 else szK (left - M.n) (fun i => (M.f i).size) (fun i => (M.g i).size) M.n
theorem szK_le {left : Int} {a b : Nat → Nat} (h : 0 ≤ left) : ∀ k, -1 ≤ szK left a b k ∧ szK left a b k ≤ left
  | 0 => by simp only [szK]; omega
  | k + 1 => by
    have := szK_le (a := a) (b := b) h k
    simp only [szK, sz2F]
    split
    · omega
    · split
      · omega
      · split <;> omega
theorem szK_neg {left : Int} {a b : Nat → Nat} {k n : Nat} (h : szK left a b k < 0) (hk : k < n) : szK left a b n = -1 := by
  induction n with
  | zero => omega
  | succ n ih =>
    simp only [szK]
    rcases Nat.lt_or_ge k n with h1 | h1
    · rw [ih h1]; rfl
    · obtain rfl : k = n := by omega
      rw [if_pos h]
theorem szMF_le {left : Int} {M : Ms} (h : 0 ≤ left) : -1 ≤ szMF left M ∧ szMF left M ≤ left := by
  unfold szMF
  split
  · omega
  · have := szK_le (left := left - M.n) (a := fun i => (M.f i).size) (b := fun i => (M.g i).size) (by omega) M.n
    omega
theorem szMF_n {left : Int} {M : Ms} (h : 0 ≤ szMF left M) : (M.n : Int) ≤ left := by
  unfold szMF at h
  split at h <;> omega

set_option maxRecDepth 100000 in
set_option maxHeartbeats 1600000 in
theorem szMessageS_any (M : Ms) (left : Int) (lo hi : Nat) (v : Value) (w : World) (hv : Sl w lo hi 3 v M.n M.c) (hhi : hi ≤ w.heap.size) (hl : 0 ≤ left) (hl' : left ≤ 1048576) (hn : M.n ≤ 9223372036854775807) (hsz : ∀ i, i < M.n → (M.f i).size ≤ maxLen ∧ (M.g i).size ≤ maxLen) :
    Calls Try.prog 13 #[v, .int .i64 left] w fun e w' => e = .returned (.int .i64 (szMF left M)) ∧ Below w.heap.size w w' := by
  obtain ⟨A, cap, rfl, hcap, hA⟩ := hv.open_
  clear hv
  by_cases h : left < M.n
  · have hd : decide (left - (M.n : Int) < 0) = true := by simp; omega
    go_enter Try.func13, Try.ntmps13
    go_wp2_with fail
    go_ret
    exact ⟨ret_int (by rw [szMF, if_pos h]), (by repeat (first | (with_reducible exact Below.refl _ _) | (with_reducible refine below_ov ?_ ?_) | (with_reducible refine Below.setCell ?_ ?_ _) | (with_reducible refine Below.alloc ?_ ?_ _) | (with_reducible refine Below.drew ?_) | (with_reducible refine below_drewN ?_ _) | (refine Below.trans ?_ (Below.mono ‹Below _ _ _› (by first | omega | (simp; done) | (simp; omega)))) | exact Below.refl _ _ | omega | (focus (simp; done)) | (focus (simp; omega))))⟩
  · have hd : decide (left - (M.n : Int) < 0) = false := by simp; omega
    have HM : Hid (szMF left M = szK (left - M.n) (fun i => (M.f i).size) (fun i => (M.g i).size) M.n) := by
      show szMF left M = _
      rw [szMF, if_neg h]
    go_enter Try.func13, Try.ntmps13
    go_wp2_with fail
    go_loopw [1, 5] (fun c i wr => ∃ k : Nat, k ≤ M.n ∧ i = .int .i64 k ∧ c = .int .i64 (szK (left - M.n) (fun i => (M.f i).size) (fun i => (M.g i).size) k) ∧ 0 ≤ szK (left - M.n) (fun i => (M.f i).size) (fun i => (M.g i).size) k ∧ Below w.heap.size w wr) (fun _ i _ => M.n - (intOf i).toNat)
    case atStart => exact ⟨0, by omega, rfl, rfl, by simp only [szK]; omega, Below.refl _ _⟩
    case round =>
      obtain ⟨k, hk, rfl, rfl, h0, hb⟩ := hrel
      have hzr := hb.size
      have hle := szK_le (left := left - M.n) (a := fun i => (M.f i).size) (b := fun i => (M.g i).size) (by omega) k
      by_cases hkn : k < M.n
      · obtain ⟨blk, off, rfl, h1, h2, h3⟩ := (hA.below hb (by omega)) (by omega)
        have c0 : wr.cell? ⟨blk, off + k * 3, none⟩ = some (.string (M.f k)) := h3 k 0 hkn (by omega)
        have c1 : wr.cell? ⟨blk, off + k * 3 + 1, none⟩ = some (.int .i64 (M.m k)) := h3 k 1 hkn (by omega)
        have c2 : wr.cell? ⟨blk, off + k * 3 + 2, none⟩ = some (.string (M.g k)) := h3 k 2 hkn (by omega)
        clear h3 hA
        obtain ⟨z1, z2⟩ := hsz k hkn
        have hs : Hid (szK (left - M.n) (fun i => (M.f i).size) (fun i => (M.g i).size) (k + 1) = sz2F (szK (left - M.n) (fun i => (M.f i).size) (fun i => (M.g i).size) k) (M.f k).size (M.g k).size) := by
          show szK _ _ _ (k + 1) = _
          rw [szK, if_neg (by omega)]
        have hnx : ∀ x, x < szK (left - M.n) (fun i => (M.f i).size) (fun i => (M.g i).size) (k + 1) ∨ szK (left - M.n) (fun i => (M.f i).size) (fun i => (M.g i).size) (k + 1) ≤ x := fun x => by omega
        go_wp2_with fail
        refine (szMessage_any _ _ _ _ _ h0 (by omega) z1 z2).mono ?_
        rintro e w1 ⟨rfl, hb1⟩
        have hz1 := hb1.size
        rw [← hs.out]
        cases hd2 : decide (szK (left - M.n) (fun i => (M.f i).size) (fun i => (M.g i).size) (k + 1) < 0) with
        | true =>
          have HE : Hid (szMF left M = -1) := by
            show szMF left M = -1
            have h5 := of_decide_eq_true hd2
            rw [HM.out]
            rcases Nat.lt_or_ge (k + 1) M.n with h6 | h6
            · exact szK_neg h5 h6
            · obtain h7 : k + 1 = M.n := by omega
              have := (szK_le (left := left - M.n) (a := fun i => (M.f i).size) (b := fun i => (M.g i).size) (by omega) (k + 1)).1
              have h9 := congrArg (szK (left - M.n) (fun i => (M.f i).size) (fun i => (M.g i).size)) h7
              omega
          go_wp2_with fail
          go_ret
          exact ⟨ret_int HE.out.symm, (by repeat (first | (with_reducible exact Below.refl _ _) | (with_reducible refine below_ov ?_ ?_) | (with_reducible refine Below.setCell ?_ ?_ _) | (with_reducible refine Below.alloc ?_ ?_ _) | (with_reducible refine Below.drew ?_) | (with_reducible refine below_drewN ?_ _) | (refine Below.trans ?_ (Below.mono ‹Below _ _ _› (by first | omega | (simp; done) | (simp; omega)))) | exact Below.refl _ _ | omega | (focus (simp; done)) | (focus (simp; omega))))⟩
        | false =>
          have h5 := of_decide_eq_false hd2
          go_wp2_with fail
          go_roundw
          case rel => exact ⟨k + 1, by omega, by go_num, rfl, by omega, (by repeat (first | (with_reducible exact Below.refl _ _) | (with_reducible refine below_ov ?_ ?_) | (with_reducible refine Below.setCell ?_ ?_ _) | (with_reducible refine Below.alloc ?_ ?_ _) | (with_reducible refine Below.drew ?_) | (with_reducible refine below_drewN ?_ _) | (refine Below.trans ?_ (Below.mono ‹Below _ _ _› (by first | omega | (simp; done) | (simp; omega)))) | exact Below.refl _ _ | omega | (focus (simp; done)) | (focus (simp; omega))))⟩
          case measure => simp [intOf]; omega
      · obtain rfl : k = M.n := by omega
        go_wp2_with fail
        go_ret
        exact ⟨ret_int HM.out.symm, hb⟩

def szCF (left : Int) (S R H : Ms) : Int := if szMF left S < 0 then -1 else if szMF (szMF left S) R < 0 then -1 else if szMF (szMF (szMF left S) R) H < 0 then -1 else szMF (szMF (szMF left S) R) H
theorem szCF_n {left : Int} {S R H : Ms} (h : 0 ≤ left) (h0 : 0 ≤ szCF left S R H) : (S.n : Int) ≤ left ∧ (R.n : Int) ≤ left ∧ (H.n : Int) ≤ left := by
  unfold szCF at h0
  split at h0
  · omega
  · split at h0
    · omega
    · split at h0
      · omega
      · rename_i h1 h2 h3
        have a1 := szMF_le (left := left) (M := S) h
        have a2 := szMF_le (left := szMF left S) (M := R) (by omega)
        have b1 := szMF_n (left := left) (M := S) (by omega)
        have b2 := szMF_n (left := szMF left S) (M := R) (by omega)
        have b3 := szMF_n (left := szMF (szMF left S) R) (M := H) (by omega)
        omega
/-- Lists that can lie in memory (before their size is known). -/
def Ms.some (M : Ms) : Prop := M.n ≤ 9223372036854775807 ∧ ∀ i, i < M.n → (M.f i).size ≤ maxLen ∧ (M.g i).size ≤ maxLen
set_option maxRecDepth 100000 in
set_option maxHeartbeats 1600000 in
theorem szChannel_any (S R H : Ms) (left : Int) (lo hi : Nat) (vS vR vH : Value) (w : World) (hS : Sl w lo hi 3 vS S.n S.c) (hR : Sl w lo hi 3 vR R.n R.c) (hH : Sl w lo hi 3 vH H.n H.c) (hhi : hi ≤ w.heap.size) (hl : 0 ≤ left) (hl' : left ≤ 1048576) (fS : S.some) (fR : R.some) (fH : H.some) :
    Calls Try.prog 4 #[.agg #[vS, vR, vH], .int .i64 left] w fun e w' => e = .returned (.int .i64 (szCF left S R H)) ∧ Below w.heap.size w w' := by
  go_enter Try.func4, Try.ntmps4
  go_wp2_with fail
  refine (szMessageS_any S left lo hi _ _ (hS.below (B := w.heap.size) (by repeat (first | (with_reducible exact Below.refl _ _) | (with_reducible refine below_ov ?_ ?_) | (with_reducible refine Below.setCell ?_ ?_ _) | (with_reducible refine Below.alloc ?_ ?_ _) | (with_reducible refine Below.drew ?_) | (with_reducible refine below_drewN ?_ _) | (refine Below.trans ?_ (Below.mono ‹Below _ _ _› (by first | omega | (simp; done) | (simp; omega)))) | exact Below.refl _ _ | omega | (focus (simp; done)) | (focus (simp; omega)))) hhi) (by simp <;> omega) hl hl' fS.1 fS.2).mono ?_
  rintro e w1 ⟨rfl, hb1⟩
  have hz1 := hb1.size
  simp at hz1
  have m1 := szMF_le (left := left) (M := S) hl
  have a1 : w1.cell? ⟨w.heap.size, 1, none⟩ = some vR := (hb1.cell (p := ⟨w.heap.size, 1, none⟩) (by simp)).trans (World.cell?_alloc_new _ _ _ _)
  have a2 : w1.cell? ⟨w.heap.size, 2, none⟩ = some vH := (hb1.cell (p := ⟨w.heap.size, 2, none⟩) (by simp)).trans (World.cell?_alloc_new _ _ _ _)
  cases h1 : decide (szMF left S < 0) with
  | true =>
    go_wp2_with fail
    go_ret
    exact ⟨ret_int (by rw [szCF, if_pos (of_decide_eq_true h1)]), (by repeat (first | (with_reducible exact Below.refl _ _) | (with_reducible refine below_ov ?_ ?_) | (with_reducible refine Below.setCell ?_ ?_ _) | (with_reducible refine Below.alloc ?_ ?_ _) | (with_reducible refine Below.drew ?_) | (with_reducible refine below_drewN ?_ _) | (refine Below.trans ?_ (Below.mono ‹Below _ _ _› (by first | omega | (simp; done) | (simp; omega)))) | exact Below.refl _ _ | omega | (focus (simp; done)) | (focus (simp; omega))))⟩
  | false =>
    have h1' := of_decide_eq_false h1
    go_wp2_with fail
    refine (szMessageS_any R (szMF left S) lo hi _ _ (hR.below (B := w.heap.size) (by repeat (first | (with_reducible exact Below.refl _ _) | (with_reducible refine below_ov ?_ ?_) | (with_reducible refine Below.setCell ?_ ?_ _) | (with_reducible refine Below.alloc ?_ ?_ _) | (with_reducible refine Below.drew ?_) | (with_reducible refine below_drewN ?_ _) | (refine Below.trans ?_ (Below.mono ‹Below _ _ _› (by first | omega | (simp; done) | (simp; omega)))) | exact Below.refl _ _ | omega | (focus (simp; done)) | (focus (simp; omega)))) hhi) (by omega) (by omega) (by omega) fR.1 fR.2).mono ?_
    rintro e w2 ⟨rfl, hb2⟩
    have hz2 := hb2.size
    have m2 := szMF_le (left := szMF left S) (M := R) (by omega)
    have a2' := (hb2.cell (p := ⟨w.heap.size, 2, none⟩) (by show w.heap.size < _; omega)).trans a2
    cases h2 : decide (szMF (szMF left S) R < 0) with
    | true =>
      go_wp2_with fail
      go_ret
      exact ⟨ret_int (by rw [szCF, if_neg (Int.not_lt.2 h1'), if_pos (of_decide_eq_true h2)]), (by repeat (first | (with_reducible exact Below.refl _ _) | (with_reducible refine below_ov ?_ ?_) | (with_reducible refine Below.setCell ?_ ?_ _) | (with_reducible refine Below.alloc ?_ ?_ _) | (with_reducible refine Below.drew ?_) | (with_reducible refine below_drewN ?_ _) | (refine Below.trans ?_ (Below.mono ‹Below _ _ _› (by first | omega | (simp; done) | (simp; omega)))) | exact Below.refl _ _ | omega | (focus (simp; done)) | (focus (simp; omega))))⟩
    | false =>
      have h2' := of_decide_eq_false h2
      go_wp2_with fail
      refine (szMessageS_any H (szMF (szMF left S) R) lo hi _ _ (hH.below (B := w.heap.size) (by repeat (first | (with_reducible exact Below.refl _ _) | (with_reducible refine below_ov ?_ ?_) | (with_reducible refine Below.setCell ?_ ?_ _) | (with_reducible refine Below.alloc ?_ ?_ _) | (with_reducible refine Below.drew ?_) | (with_reducible refine below_drewN ?_ _) | (refine Below.trans ?_ (Below.mono ‹Below _ _ _› (by first | omega | (simp; done) | (simp; omega)))) | exact Below.refl _ _ | omega | (focus (simp; done)) | (focus (simp; omega)))) hhi) (by omega) (by omega) (by omega) fH.1 fH.2).mono ?_
      rintro e w3 ⟨rfl, hb3⟩
      have hz3 := hb3.size
      cases h3 : decide (szMF (szMF (szMF left S) R) H < 0) with
      | true =>
        go_wp2_with fail
        go_ret
        exact ⟨ret_int (by rw [szCF, if_neg (Int.not_lt.2 h1'), if_neg (Int.not_lt.2 h2'), if_pos (of_decide_eq_true h3)]), (by repeat (first | (with_reducible exact Below.refl _ _) | (with_reducible refine below_ov ?_ ?_) | (with_reducible refine Below.setCell ?_ ?_ _) | (with_reducible refine Below.alloc ?_ ?_ _) | (with_reducible refine Below.drew ?_) | (with_reducible refine below_drewN ?_ _) | (refine Below.trans ?_ (Below.mono ‹Below _ _ _› (by first | omega | (simp; done) | (simp; omega)))) | exact Below.refl _ _ | omega | (focus (simp; done)) | (focus (simp; omega))))⟩
      | false =>
        go_wp2_with fail
        go_ret
        exact ⟨ret_int (by rw [szCF, if_neg (Int.not_lt.2 h1'), if_neg (Int.not_lt.2 h2'), if_neg (of_decide_eq_false h3)]), (by repeat (first | (with_reducible exact Below.refl _ _) | (with_reducible refine below_ov ?_ ?_) | (with_reducible refine Below.setCell ?_ ?_ _) | (with_reducible refine Below.alloc ?_ ?_ _) | (with_reducible refine Below.drew ?_) | (with_reducible refine below_drewN ?_ _) | (refine Below.trans ?_ (Below.mono ‹Below _ _ _› (by first | omega | (simp; done) | (simp; omega)))) | exact Below.refl _ _ | omega | (focus (simp; done)) | (focus (simp; omega))))⟩
set_option maxRecDepth 100000 in
set_option maxHeartbeats 1600000 in
/-- Copies of one channel compare as equal. -/
theorem eqChannel_same (S R H : Ms) (lo hi lo' hi' : Nat) (vS vR vH uS uR uH : Value) (w : World) (hS : Sl w lo hi 3 vS S.n S.c) (hR : Sl w lo hi 3 vR R.n R.c) (hH : Sl w lo hi 3 vH H.n H.c) (hS' : Sl w lo' hi' 3 uS S.n S.c) (hR' : Sl w lo' hi' 3 uR R.n R.c) (hH' : Sl w lo' hi' 3 uH H.n H.c) (hhi : hi ≤ w.heap.size) (hhi' : hi' ≤ w.heap.size) (fS : S.fits) (fR : R.fits) (fH : H.fits) :
    Calls Try.prog 9 #[.agg #[vS, vR, vH], .agg #[uS, uR, uH]] w fun e w' => e = .returned (.bool true) ∧ Below w.heap.size w w' := by
  have eS := hide (sisL_self S.f S.m S.g S.n)
  have eR := hide (sisL_self R.f R.m R.g R.n)
  have eH := hide (sisL_self H.f H.m H.g H.n)
  go_enter Try.func9, Try.ntmps9
  go_wp2_with fail
  refine (eqMessageS_any S.f S.m S.g S.f S.m S.g S.n S.n lo hi lo' hi' _ _ _ (hS.below (B := w.heap.size) (by repeat (first | (with_reducible exact Below.refl _ _) | (with_reducible refine below_ov ?_ ?_) | (with_reducible refine Below.setCell ?_ ?_ _) | (with_reducible refine Below.alloc ?_ ?_ _) | (with_reducible refine Below.drew ?_) | (with_reducible refine below_drewN ?_ _) | (refine Below.trans ?_ (Below.mono ‹Below _ _ _› (by first | omega | (simp; done) | (simp; omega)))) | exact Below.refl _ _ | omega | (focus (simp; done)) | (focus (simp; omega)))) hhi) (hS'.below (B := w.heap.size) (by repeat (first | (with_reducible exact Below.refl _ _) | (with_reducible refine below_ov ?_ ?_) | (with_reducible refine Below.setCell ?_ ?_ _) | (with_reducible refine Below.alloc ?_ ?_ _) | (with_reducible refine Below.drew ?_) | (with_reducible refine below_drewN ?_ _) | (refine Below.trans ?_ (Below.mono ‹Below _ _ _› (by first | omega | (simp; done) | (simp; omega)))) | exact Below.refl _ _ | omega | (focus (simp; done)) | (focus (simp; omega)))) hhi') (by simp <;> omega) (by simp <;> omega) (by have := fS.1; omega) (by have := fS.1; omega)).mono ?_
  rintro e w1 ⟨rfl, hb1⟩
  rw [eS.out]
  have hz1 := hb1.size
  simp at hz1
  have a1 : w1.cell? ⟨w.heap.size, 1, none⟩ = some vR := (hb1.cell (p := ⟨w.heap.size, 1, none⟩) (by simp <;> omega)).trans ((World.cell?_alloc_lt _ _ _ (by simp)).trans (World.cell?_alloc_new _ _ _ _))
  have a2 : w1.cell? ⟨w.heap.size, 2, none⟩ = some vH := (hb1.cell (p := ⟨w.heap.size, 2, none⟩) (by simp <;> omega)).trans ((World.cell?_alloc_lt _ _ _ (by simp)).trans (World.cell?_alloc_new _ _ _ _))
  have b1 : w1.cell? ⟨w.heap.size + 1, 1, none⟩ = some uR := (hb1.cell (p := ⟨w.heap.size + 1, 1, none⟩) (by simp)).trans (World.cell?_alloc_at _ _ _ _ (by simp))
  have b2 : w1.cell? ⟨w.heap.size + 1, 2, none⟩ = some uH := (hb1.cell (p := ⟨w.heap.size + 1, 2, none⟩) (by simp)).trans (World.cell?_alloc_at _ _ _ _ (by simp))
  go_wp2_with fail
  refine (eqMessageS_any R.f R.m R.g R.f R.m R.g R.n R.n lo hi lo' hi' _ _ _ (hR.below (B := w.heap.size) (by repeat (first | (with_reducible exact Below.refl _ _) | (with_reducible refine below_ov ?_ ?_) | (with_reducible refine Below.setCell ?_ ?_ _) | (with_reducible refine Below.alloc ?_ ?_ _) | (with_reducible refine Below.drew ?_) | (with_reducible refine below_drewN ?_ _) | (refine Below.trans ?_ (Below.mono ‹Below _ _ _› (by first | omega | (simp; done) | (simp; omega)))) | exact Below.refl _ _ | omega | (focus (simp; done)) | (focus (simp; omega)))) hhi) (hR'.below (B := w.heap.size) (by repeat (first | (with_reducible exact Below.refl _ _) | (with_reducible refine below_ov ?_ ?_) | (with_reducible refine Below.setCell ?_ ?_ _) | (with_reducible refine Below.alloc ?_ ?_ _) | (with_reducible refine Below.drew ?_) | (with_reducible refine below_drewN ?_ _) | (refine Below.trans ?_ (Below.mono ‹Below _ _ _› (by first | omega | (simp; done) | (simp; omega)))) | exact Below.refl _ _ | omega | (focus (simp; done)) | (focus (simp; omega)))) hhi') (by omega) (by omega) (by have := fR.1; omega) (by have := fR.1; omega)).mono ?_
  rintro e w2 ⟨rfl, hb2⟩
  rw [eR.out]
  have hz2 := hb2.size
  have a2' := (hb2.cell (p := ⟨w.heap.size, 2, none⟩) (by show w.heap.size < _; omega)).trans a2
  have b2' := (hb2.cell (p := ⟨w.heap.size + 1, 2, none⟩) (by show w.heap.size + 1 < _; omega)).trans b2
  go_wp2_with fail
  refine (eqMessageS_any H.f H.m H.g H.f H.m H.g H.n H.n lo hi lo' hi' _ _ _ (hH.below (B := w.heap.size) (by repeat (first | (with_reducible exact Below.refl _ _) | (with_reducible refine below_ov ?_ ?_) | (with_reducible refine Below.setCell ?_ ?_ _) | (with_reducible refine Below.alloc ?_ ?_ _) | (with_reducible refine Below.drew ?_) | (with_reducible refine below_drewN ?_ _) | (refine Below.trans ?_ (Below.mono ‹Below _ _ _› (by first | omega | (simp; done) | (simp; omega)))) | exact Below.refl _ _ | omega | (focus (simp; done)) | (focus (simp; omega)))) hhi) (hH'.below (B := w.heap.size) (by repeat (first | (with_reducible exact Below.refl _ _) | (with_reducible refine below_ov ?_ ?_) | (with_reducible refine Below.setCell ?_ ?_ _) | (with_reducible refine Below.alloc ?_ ?_ _) | (with_reducible refine Below.drew ?_) | (with_reducible refine below_drewN ?_ _) | (refine Below.trans ?_ (Below.mono ‹Below _ _ _› (by first | omega | (simp; done) | (simp; omega)))) | exact Below.refl _ _ | omega | (focus (simp; done)) | (focus (simp; omega)))) hhi') (by omega) (by omega) (by have := fH.1; omega) (by have := fH.1; omega)).mono ?_
  rintro e w3 ⟨rfl, hb3⟩
  rw [eH.out]
  have hz3 := hb3.size
  go_wp2_with fail
  go_ret
  exact ⟨rfl, (by repeat (first | (with_reducible exact Below.refl _ _) | (with_reducible refine below_ov ?_ ?_) | (with_reducible refine Below.setCell ?_ ?_ _) | (with_reducible refine Below.alloc ?_ ?_ _) | (with_reducible refine Below.drew ?_) | (with_reducible refine below_drewN ?_ _) | (refine Below.trans ?_ (Below.mono ‹Below _ _ _› (by first | omega | (simp; done) | (simp; omega)))) | exact Below.refl _ _ | omega | (focus (simp; done)) | (focus (simp; omega))))⟩

end Go.Proofs.Ytkikjneamjmdlaa
