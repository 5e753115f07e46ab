/-
  Walks: the messages not heard, the reference.
-/
import Derived.Test.YtkikjneamjmdlaaPUnc
import Derived.Test.YtkikjneamjmdlaaWChan7
import Derived.Deep.LoopGhost
namespace Go.Proofs.Ytkikjneamjmdlaa
set_option linter.unusedVariables false
set_option linter.unusedSimpArgs false
open Go.RowKit

theorem infoMs : (Try.prog.info? 40).map (fun i => (i.zero, i.size, i.bytes)) = some (some (.agg #[.string ⟨#[]⟩, .int .i64 0, .string ⟨#[]⟩]), 3, 40) := by kernel_rfl
def UcRes (S R H : Ms) (w : World) (e : Ending) (w' : World) : Prop :=
  ∃ v', e = .returned (.tuple #[v', .bool (chanB S R H)]) ∧ Own w' w.heap.size w'.heap.size 40 3 v' (ucR S R H).n (ucR S R H).n (ucR S R H).c ∧ Below w.heap.size w w'
theorem uc_nil {S R H : Ms} {w w' : World} (h : chanB S R H = false) (hb : Below w.heap.size w w') : UcRes S R H w (.returned (.tuple #[.slice none 0 0, .bool false])) w' := by
  have e : (ucR S R H).n = 0 := by
    show (flt _ _).length = 0
    rw [ucN, if_neg (by simp [h])]; rfl
  refine ⟨_, by rw [h], ?_, hb⟩
  rw [e]
  exact ⟨[], World.ownsRow_nil _ _ _ _, fun g hg => by simp [Value.ownBlock] at hg, fun i j hi _ => absurd hi (Nat.not_lt_zero _)⟩
theorem ucR_at {S R H : Ms} (h : chanB S R H = true) : ucR S R H = ucM (ucK S H) S S.n := by rw [ucR, ucN, if_pos h]
theorem uc_row {S R H : Ms} {w w' : World} {v : Value} {B : Nat} (h : chanB S R H = true) (hr : Own w' B w'.heap.size 40 3 v (ucM (ucK S H) S S.n).n (ucM (ucK S H) S S.n).n (ucM (ucK S H) S S.n).c) (hB : w.heap.size ≤ B) (hb : Below w.heap.size w w') : UcRes S R H w (.returned (.tuple #[v, .bool true])) w' := by
  refine ⟨v, by rw [h], ?_, hb⟩
  rw [ucR_at h]
  exact hr.mono hB (Nat.le_refl _)
set_option maxRecDepth 100000 in
set_option maxHeartbeats 3200000 in
theorem Unconfirmed_specR (S R H : Ms) (lo hi : Nat) (vS vR vH : Value) (w : World) (hS : Sl w lo hi 3 vS S.n S.c) (hR : Sl w lo hi 3 vR R.n R.c) (hH : Sl w lo hi 3 vH H.n H.c) (hhi : hi ≤ w.heap.size) (fS : S.fits) (fR : R.fits) (fH : H.fits) :
    Calls Try.prog 5 #[.agg #[vS, vR, vH]] w (UcRes S R H w) := by
  obtain ⟨A, cap, rfl, hcap, hA⟩ := id hS.open_
  have hn := fS.1
  have hnH := fH.1
  have FS := hide fS
  obtain ⟨ii, hii, iz0, iz1, iz2⟩ := info_parts infoMs
  cases hc : chanB S R H with
  | false =>
    have HC := hide hc
    go_enter Try.func5, Try.ntmps5
    go_wp2_with fail
    refine (raGood_any S R H lo hi _ _ _ _ (hS.below (B := w.heap.size) (by repeat (first | (with_reducible exact Below.refl _ _) | (with_reducible refine below_ov ?_ ?_) | (with_reducible refine Below.setCell ?_ ?_ _) | (with_reducible refine Below.alloc ?_ ?_ _) | (with_reducible refine Below.drew ?_) | (with_reducible refine below_drewN ?_ _) | (refine Below.trans ?_ (Below.mono ‹Below _ _ _› (by first | omega | (simp; done) | (simp; omega)))) | exact Below.refl _ _ | omega | (focus (simp; done)) | (focus (simp; omega)))) hhi) (hR.below (B := w.heap.size) (by repeat (first | (with_reducible exact Below.refl _ _) | (with_reducible refine below_ov ?_ ?_) | (with_reducible refine Below.setCell ?_ ?_ _) | (with_reducible refine Below.alloc ?_ ?_ _) | (with_reducible refine Below.drew ?_) | (with_reducible refine below_drewN ?_ _) | (refine Below.trans ?_ (Below.mono ‹Below _ _ _› (by first | omega | (simp; done) | (simp; omega)))) | exact Below.refl _ _ | omega | (focus (simp; done)) | (focus (simp; omega)))) hhi) (hH.below (B := w.heap.size) (by repeat (first | (with_reducible exact Below.refl _ _) | (with_reducible refine below_ov ?_ ?_) | (with_reducible refine Below.setCell ?_ ?_ _) | (with_reducible refine Below.alloc ?_ ?_ _) | (with_reducible refine Below.drew ?_) | (with_reducible refine below_drewN ?_ _) | (refine Below.trans ?_ (Below.mono ‹Below _ _ _› (by first | omega | (simp; done) | (simp; omega)))) | exact Below.refl _ _ | omega | (focus (simp; done)) | (focus (simp; omega)))) hhi) (by simp; omega) fS fR fH).mono ?_
    rintro e w1 ⟨rfl, hb1⟩
    have hz1 := hb1.size
    rw [HC.out]
    go_wp2_with fail
    go_ret2
    exact uc_nil HC.out (by repeat (first | (with_reducible exact Below.refl _ _) | (with_reducible refine below_ov ?_ ?_) | (with_reducible refine Below.setCell ?_ ?_ _) | (with_reducible refine Below.alloc ?_ ?_ _) | (with_reducible refine Below.drew ?_) | (with_reducible refine below_drewN ?_ _) | (refine Below.trans ?_ (Below.mono ‹Below _ _ _› (by first | omega | (simp; done) | (simp; omega)))) | exact Below.refl _ _ | omega | (focus (simp; done)) | (focus (simp; omega))))
  | true =>
    have HC := hide hc
    go_enter Try.func5, Try.ntmps5
    go_wp2_with fail
    refine (raGood_any S R H lo hi _ _ _ _ (hS.below (B := w.heap.size) (by repeat (first | (with_reducible exact Below.refl _ _) | (with_reducible refine below_ov ?_ ?_) | (with_reducible refine Below.setCell ?_ ?_ _) | (with_reducible refine Below.alloc ?_ ?_ _) | (with_reducible refine Below.drew ?_) | (with_reducible refine below_drewN ?_ _) | (refine Below.trans ?_ (Below.mono ‹Below _ _ _› (by first | omega | (simp; done) | (simp; omega)))) | exact Below.refl _ _ | omega | (focus (simp; done)) | (focus (simp; omega)))) hhi) (hR.below (B := w.heap.size) (by repeat (first | (with_reducible exact Below.refl _ _) | (with_reducible refine below_ov ?_ ?_) | (with_reducible refine Below.setCell ?_ ?_ _) | (with_reducible refine Below.alloc ?_ ?_ _) | (with_reducible refine Below.drew ?_) | (with_reducible refine below_drewN ?_ _) | (refine Below.trans ?_ (Below.mono ‹Below _ _ _› (by first | omega | (simp; done) | (simp; omega)))) | exact Below.refl _ _ | omega | (focus (simp; done)) | (focus (simp; omega)))) hhi) (hH.below (B := w.heap.size) (by repeat (first | (with_reducible exact Below.refl _ _) | (with_reducible refine below_ov ?_ ?_) | (with_reducible refine Below.setCell ?_ ?_ _) | (with_reducible refine Below.alloc ?_ ?_ _) | (with_reducible refine Below.drew ?_) | (with_reducible refine below_drewN ?_ _) | (refine Below.trans ?_ (Below.mono ‹Below _ _ _› (by first | omega | (simp; done) | (simp; omega)))) | exact Below.refl _ _ | omega | (focus (simp; done)) | (focus (simp; omega)))) hhi) (by simp; omega) fS fR fH).mono ?_
    rintro e w1 ⟨rfl, hb1⟩
    have hz1 := hb1.size
    rw [HC.out]
    simp at hz1
    have hbw1 : Below w.heap.size w w1 := (by repeat (first | (with_reducible exact Below.refl _ _) | (with_reducible refine below_ov ?_ ?_) | (with_reducible refine Below.setCell ?_ ?_ _) | (with_reducible refine Below.alloc ?_ ?_ _) | (with_reducible refine Below.drew ?_) | (with_reducible refine below_drewN ?_ _) | (refine Below.trans ?_ (Below.mono ‹Below _ _ _› (by first | omega | (simp; done) | (simp; omega)))) | exact Below.refl _ _ | omega | (focus (simp; done)) | (focus (simp; omega))))
    have x0 : w1.cell? ⟨w.heap.size, 0, none⟩ = some (.slice A S.n cap) := (hb1.cell (p := ⟨w.heap.size, 0, none⟩) (by simp)).trans (World.cell?_alloc_new _ _ _ _)
    have x2 : w1.cell? ⟨w.heap.size, 2, none⟩ = some vH := (hb1.cell (p := ⟨w.heap.size, 2, none⟩) (by simp)).trans (World.cell?_alloc_new _ _ _ _)
    have X2 := hide x2
    clear x2 hc
    clear hS hR
    clear hb1
    go_wp2_with fail
    clear x0
    have HB1 := hide hbw1
    clear hbw1
    go_loopg [4, 13] (S.n + 1) (fun gn o i wr => ∃ (k : Nat) (B : Option Addr) (cp : Nat), k ≤ S.n ∧ S.n - k < gn ∧ o = .slice B (ucM (ucK S H) S k).n cp ∧ i = .int .i64 k ∧ Hid (wr.ownsRow w1.heap.size 40 3 (.slice B (ucM (ucK S H) S k).n cp) (ucM (ucK S H) S k).n (rowL (ucM (ucK S H) S k).c 3 (ucM (ucK S H) S k).n)) ∧ Hid (Below w1.heap.size w1 wr))
    case atStart => exact ⟨0, none, 0, by omega, by omega, rfl, rfl, World.ownsRow_nil _ _ _ _, Below.refl _ _⟩
    case round =>
      obtain ⟨k, B, cp, hk, hgn, rfl, rfl, HO, HB⟩ := hrel
      have hzr := HB.out.size
      by_cases hkn : k < S.n
      · obtain ⟨blk, off, rfl, h1, h2, h3⟩ := (hA.below HB1.out (by omega)) (by omega)
        have HBw : Hid (Below w.heap.size w wr) := HB1.out.trans (HB.out.mono (by omega))
        have c0 : wr.cell? ⟨blk, off + k * 3, none⟩ = some (.string (S.f k)) := (HB.out.cell (p := ⟨blk, off + k * 3, none⟩) (by show blk < _; omega)).trans (h3 k 0 hkn (by omega))
        have c1 : wr.cell? ⟨blk, off + k * 3 + 1, none⟩ = some (.int .i64 (S.m k)) := (HB.out.cell (p := ⟨blk, off + k * 3 + 1, none⟩) (by show blk < _; omega)).trans (h3 k 1 hkn (by omega))
        have c2 : wr.cell? ⟨blk, off + k * 3 + 2, none⟩ = some (.string (S.g k)) := (HB.out.cell (p := ⟨blk, off + k * 3 + 2, none⟩) (by show blk < _; omega)).trans (h3 k 2 hkn (by omega))
        have y2 : wr.cell? ⟨w.heap.size, 2, none⟩ = some vH := (HB.out.cell (p := ⟨w.heap.size, 2, none⟩) (by show w.heap.size < _; omega)).trans X2.out
        have lw : w.heap.size < wr.heap.size := by omega
        have lb : blk < wr.heap.size := by omega
        clear h3 hA
        have hle := fstI_le (p := mk1 H.f H.m (S.f k) (S.m k)) (n := H.n)
        have hP := uc_eq HC.out hkn
        obtain ⟨t, ht⟩ : ∃ t, ucS S H k = t := ⟨_, rfl⟩
        have ht' : decide (fstI (mk1 H.f H.m (S.f k) (S.m k)) H.n < 0) = t := ht
        rw [ht] at hP
        have HP : Hid (ucK S H k = t) := hP.symm
        have HL : Hid ((ucM (ucK S H) S k).n ≤ k) := ucM_len _ _ _
        clear hP ht
        go_wp2_with fail
        refine (raFind_any H.f H.m H.g H.n lo hi vH (S.f k) (S.m k) _ (hH.below (B := w.heap.size) (HBw.out.alloc (by first | omega | (simp; done) | (simp; omega)) _) hhi) (by simp; omega) (by omega)).mono ?_
        rintro e w2 ⟨rfl, hb2⟩
        have hz2 := hb2.size
        simp at hz2
        have m0 : w2.cell? ⟨wr.heap.size, 0, none⟩ = some (.string (S.f k)) := (hb2.cell (p := ⟨wr.heap.size, 0, none⟩) (by simp)).trans (World.cell?_alloc_new _ _ _ _)
        have m1 : w2.cell? ⟨wr.heap.size, 1, none⟩ = some (.int .i64 (S.m k)) := (hb2.cell (p := ⟨wr.heap.size, 1, none⟩) (by simp)).trans (World.cell?_alloc_new _ _ _ _)
        have m2 : w2.cell? ⟨wr.heap.size, 2, none⟩ = some (.string (S.g k)) := (hb2.cell (p := ⟨wr.heap.size, 2, none⟩) (by simp)).trans (World.cell?_alloc_new _ _ _ _)
        have HB2 : Hid (Below wr.heap.size wr w2) := ((Below.refl wr.heap.size wr).alloc (Nat.le_refl _) _).trans (hb2.mono (by simp))
        have HO2 : Hid (w2.ownsRow w1.heap.size 40 3 (.slice B (ucM (ucK S H) S k).n cp) (ucM (ucK S H) S k).n (rowL (ucM (ucK S H) S k).c 3 (ucM (ucK S H) S k).n)) := row_below HO.out HB2.out (Nat.le_refl _)
        clear hb2 c0 c1 c2 y2 HO
        cases t with
        | false =>
          have hr : rowL (ucM (ucK S H) S (k + 1)).c 3 (ucM (ucK S H) S (k + 1)).n = rowL (ucM (ucK S H) S k).c 3 (ucM (ucK S H) S k).n := by rw [uc_no HP.out]
          have HR := hide hr
          clear hr
          clear m0 m1 m2
          go_wp2_with fail
          go_roundg (S.n - k)
          case measure => omega
          case rel => exact ⟨k + 1, B, cp, by omega, by omega, by rw [uc_no HP.out], by go_num, by rw [uc_no HP.out]; exact HO2.out, HB.out.trans (HB2.out.mono hzr)⟩
        | true =>
          go_wp2_with (at_builtin; refine wpList_append_own _ rfl _ _ 26 rfl w1.heap.size 40 ii (.agg #[.string ⟨#[]⟩, .int .i64 0, .string ⟨#[]⟩]) 3 40 Try.underlying26 hii iz0 iz1 iz2 rfl (by decide) _ _ _ rfl (HO2.out.alloc _) ⟨w2.heap.size, 0, none⟩ 1 1 [.string (S.f k), .int .i64 (S.m k), .string (S.g k)] rfl rfl ?_ ?_ ?_ ?_ ?_ ?_)
          · intro i u hu
            match i, hu with
            | 0, hu => simp at hu; subst hu; simp [go_sem, Addr.add]
            | 1, hu => simp at hu; subst hu; simp [go_sem, Addr.add]
            | 2, hu => simp at hu; subst hu; simp [go_sem, Addr.add]
          · intro u hu
            simp at hu
            rcases hu with rfl | rfl | rfl <;> rfl
          · have := HL.out; unfold maxLen; omega
          · have := HL.out; omega
          · simp; omega
          intro v' w3 hown3 hg3 _
          rw [← uc_row_yes HP.out] at hown3
          have hl3 : (ucM (ucK S H) S k).n + 1 = (ucM (ucK S H) S (k + 1)).n := (ucM_len_yes HP.out).symm
          rw [hl3] at hown3
          have HO3 := hide hown3
          have HB3 : Hid (Below w1.heap.size w1 w3) := ((HB.out.trans (HB2.out.mono hzr)).alloc (by omega) _).grown hg3 (by simp; omega) (fun g hg => (HO2.out.lt g hg).1)
          clear hown3 hg3 hl3
          obtain ⟨B3, c3, rfl⟩ := row_form HO3.out
          go_wp2_with fail
          go_roundg (S.n - k)
          case measure => omega
          case rel => exact ⟨k + 1, B3, c3, by omega, by omega, rfl, by go_num, HO3.out, HB3.out⟩
      · obtain rfl : k = S.n := by omega
        go_wp2_with fail
        go_ret2
        exact uc_row HC.out (own_row HO.out) (HB1.out.size) (HB1.out.trans (HB.out.mono HB1.out.size))
theorem Unconfirmed_spec (S R H : Ms) (lo hi : Nat) (vS vR vH : Value) (w : World) (hS : Sl w lo hi 3 vS S.n S.c) (hR : Sl w lo hi 3 vR R.n R.c) (hH : Sl w lo hi 3 vH H.n H.c) (hhi : hi ≤ w.heap.size) (fS : S.fits) (fR : R.fits) (fH : H.fits) :
    Calls Try.prog 5 #[.agg #[vS, vR, vH]] w fun e w' => ∃ v', e = .returned (.tuple #[v', .bool (chanB S R H)]) ∧ Own w' w.heap.size w'.heap.size 40 3 v' (ucR S R H).n (ucR S R H).n (ucR S R H).c ∧ Below w.heap.size w w' :=
  Unconfirmed_specR S R H lo hi vS vR vH w hS hR hH hhi fS fR fH

end Go.Proofs.Ytkikjneamjmdlaa
