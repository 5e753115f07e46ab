/-
  Walks: the next number in order.
-/
import Derived.Test.YteaiiccdplfakaaWChan6
namespace Go.Proofs.Yteaiiccdplfakaa
set_option linter.unusedVariables false
set_option linter.unusedSimpArgs false
open Go.RowKit

/-- The message of the name with number k + 1 was received. -/
def gotI (R : Ms) (x : ByteArray) (k : Nat) : Bool := decide (0 ≤ fstI (mk1 R.f R.m x ((k : Int) + 1)) R.n)
def nxK (R : Ms) (x : ByteArray) : Nat := lead (gotI R x) 1000
theorem chan_num {S R H : Ms} (h : chanB S R H = true) : ∀ i, i < R.n → 1 ≤ R.m i ∧ R.m i ≤ 999 := by
  intro i hi
  simp only [chanB, Bool.and_eq_true, allB_iff] at h
  obtain ⟨⟨⟨h1, _⟩, h2⟩, _⟩ := h
  have h3 := h2 i hi
  simp only [wi, Bool.and_eq_true, decide_eq_true_eq] at h3
  obtain ⟨k, hk, hm⟩ := has_iff.1 h3.1.1
  have h4 := h1 k hk
  have h5 := (mk1_iff.1 hm).2
  simp only [sent1, msgB, Bool.and_eq_true, inB_iff] at h4
  rw [h5] at h4
  omega
theorem got_small {S R H : Ms} {x : ByteArray} {k : Nat} (h : chanB S R H = true) (hg : gotI R x k = true) : k < 999 := by
  obtain ⟨i, hi, hm⟩ := has_iff.1 (of_decide_eq_true hg)
  have h1 := (mk1_iff.1 hm).2
  have := chan_num h i hi
  omega
theorem nxK_at {S R H : Ms} {x : ByteArray} {k : Nat} (h : chanB S R H = true) (hk : k ≤ 999) (hj : ∀ j, j < k → gotI R x j = true) (he : gotI R x k = false) : nxK R x = k :=
  lead_eq (by omega) hj (.inr he)
def nxN (S R H : Ms) (x : ByteArray) : Int := if nmOk S R H x = true then (nxK R x : Nat) + 1 else 0
set_option maxRecDepth 100000 in
set_option maxHeartbeats 1600000 in
theorem raNext_any (S R H : Ms) (x : ByteArray) (lo hi : Nat) (vS vR vH : Value) (w : World) (hR : Sl w lo hi 3 vR R.n R.c) (hhi : hi ≤ w.heap.size) (hn : R.n ≤ 1048576) (hc : chanB S R H = true) :
    Calls Try.prog 43 #[.agg #[vS, vR, vH], .string x] w fun e w' => e = .returned (.int .i64 ((nxK R x : Nat) + 1)) ∧ Below w.heap.size w w' := by
  have HC := hide hc
  clear hc
  go_enter Try.func43, Try.ntmps43
  go_wp2_with fail
  go_loopw [5] (fun n wr => ∃ k : Nat, k ≤ 999 ∧ n = .int .i64 ((k : Int) + 1) ∧ Hid (∀ j, j < k → gotI R x j = true) ∧ Below (w.alloc (.cells #[vS, vR, vH] 36)).heap.size (w.alloc (.cells #[vS, vR, vH] 36)) wr) (fun n _ => 1000 - (intOf n).toNat)
  case atStart => exact ⟨0, by omega, rfl, fun j hj => by omega, Below.refl _ _⟩
  case round =>
    obtain ⟨k, hk, rfl, hj, hb0⟩ := hrel
    have hzr := hb0.size
    simp at hzr
    have x1 := box_cell hb0 (by simp) 1 rfl
    simp at x1
    have hb : Below w.heap.size w wr := (Below.refl _ _).alloc (Nat.le_refl _) _ |>.trans (hb0.mono (by simp))
    have l0 : w.heap.size < wr.heap.size := by omega
    cases hg : gotI R x k with
    | true =>
      have HG := hide hg
      have hg' : decide (0 ≤ fstI (mk1 R.f R.m x ((k : Int) + 1)) R.n) = true := hg
      have hk9 := got_small HC.out hg
      go_wp2_with (go_at_call 39; refine (raFind_any R.f R.m R.g R.n lo hi vR x _ _ (hR.below (B := w.heap.size) (by repeat (first | (with_reducible exact Below.refl _ _) | (with_reducible refine below_ov ?_ ?_) | (with_reducible refine Below.setCell ?_ ?_ _) | (with_reducible refine Below.alloc ?_ ?_ _) | (with_reducible refine Below.drew ?_) | (with_reducible refine below_drewN ?_ _) | (refine Below.trans ?_ (Below.mono ‹Below _ _ _› (by first | omega | (simp; done) | (simp; omega)))) | exact Below.refl _ _ | omega | (focus (simp; done)) | (focus (simp; omega)))) hhi) (by omega) (by omega)).mono ?_; rintro e w1 ⟨rfl, hb1⟩; have hz1 := hb1.size; (try (simp at hz1)); obtain ⟨hcw1, hfw1⟩ := bcell hb1; (try (have hy1 : w.heap.size < w1.heap.size := by omega)); (try (have hyy1 : w.heap.size + 1 < w1.heap.size := by omega)); (try (have hyyy1 : w.heap.size + 1 + 1 < w1.heap.size := by omega)))
      go_roundw
      case rel => exact ⟨k + 1, by omega, by go_num, upto_snoc hj.out HG.out, (by repeat (first | (with_reducible exact Below.refl _ _) | (with_reducible refine below_ov ?_ ?_) | (with_reducible refine Below.setCell ?_ ?_ _) | (with_reducible refine Below.alloc ?_ ?_ _) | (with_reducible refine Below.drew ?_) | (with_reducible refine below_drewN ?_ _) | (refine Below.trans ?_ (Below.mono ‹Below _ _ _› (by first | omega | (simp; done) | (simp; omega)))) | exact Below.refl _ _ | omega | (focus (simp; done)) | (focus (simp; omega))))⟩
      case measure => simp [intOf]; omega
    | false =>
      have HG := hide hg
      have hg' : decide (0 ≤ fstI (mk1 R.f R.m x ((k : Int) + 1)) R.n) = false := hg
      have HE : Hid (nxK R x = k) := nxK_at HC.out hk hj.out hg
      go_wp2_with (go_at_call 39; refine (raFind_any R.f R.m R.g R.n lo hi vR x _ _ (hR.below (B := w.heap.size) (by repeat (first | (with_reducible exact Below.refl _ _) | (with_reducible refine below_ov ?_ ?_) | (with_reducible refine Below.setCell ?_ ?_ _) | (with_reducible refine Below.alloc ?_ ?_ _) | (with_reducible refine Below.drew ?_) | (with_reducible refine below_drewN ?_ _) | (refine Below.trans ?_ (Below.mono ‹Below _ _ _› (by first | omega | (simp; done) | (simp; omega)))) | exact Below.refl _ _ | omega | (focus (simp; done)) | (focus (simp; omega)))) hhi) (by omega) (by omega)).mono ?_; rintro e w1 ⟨rfl, hb1⟩; have hz1 := hb1.size; (try (simp at hz1)); obtain ⟨hcw1, hfw1⟩ := bcell hb1; (try (have hy1 : w.heap.size < w1.heap.size := by omega)); (try (have hyy1 : w.heap.size + 1 < w1.heap.size := by omega)); (try (have hyyy1 : w.heap.size + 1 + 1 < w1.heap.size := by omega)))
      go_ret
      exact ⟨ret_int (by rw [HE.out]), (by repeat (first | (with_reducible exact Below.refl _ _) | (with_reducible refine below_ov ?_ ?_) | (with_reducible refine Below.setCell ?_ ?_ _) | (with_reducible refine Below.alloc ?_ ?_ _) | (with_reducible refine Below.drew ?_) | (with_reducible refine below_drewN ?_ _) | (refine Below.trans ?_ (Below.mono ‹Below _ _ _› (by first | omega | (simp; done) | (simp; omega)))) | exact Below.refl _ _ | omega | (focus (simp; done)) | (focus (simp; omega))))⟩
theorem row_below {w w' : World} {lo E sz n B : Nat} {v : Value} {xs : List Value} (h : w.ownsRow lo E sz v n xs) (hb : Below B w w') (hB : w.heap.size ≤ B) : w'.ownsRow lo E sz v n xs := by
  obtain ⟨hl, h1⟩ := id h
  refine ⟨hl, ?_⟩
  rcases h1 with h1 | ⟨g, cap, cur, rfl, hg, hh, r⟩
  · exact .inl h1
  · exact .inr ⟨g, cap, cur, rfl, hg, by rw [hb.block g (Nat.lt_of_lt_of_le (h.lt g rfl).2 hB)]; exact hh, r⟩
theorem infoStrN : (Try.prog.info? 9).map (fun i => (i.zero, i.size, i.bytes)) = some (some (.string ⟨#[]⟩), 1, 16) := by kernel_rfl
set_option maxRecDepth 100000 in
set_option maxHeartbeats 1600000 in
theorem inOrder_any (S R H : Ms) (x : ByteArray) (lo hi pb : Nat) (vR : Value) (w : World) (hR : Sl w lo hi 3 vR R.n R.c) (hhi : hi ≤ w.heap.size) (hn : R.n ≤ 1048576) (hc : chanB S R H = true) (hp : pb < w.heap.size) (p1 : w.cell? ⟨pb, 1, none⟩ = some vR) :
    Calls Try.prog 44 #[.pointer (some ⟨pb, 0, none⟩), .string x] w fun e w' => ∃ A cap, e = .returned (.slice A (nxK R x) cap) ∧ Below w.heap.size w w' := by
  have HC := hide hc
  clear hc
  obtain ⟨A, cap, rfl, hcap, hA⟩ := hR.open_
  obtain ⟨i0, hi0, iz0, iz1, iz2⟩ := info_parts infoStrN
  go_enter Try.func44, Try.ntmps44
  go_wp2_with fail
  refine (received_any R x 1 lo hi pb _ _ (hR.below (B := w.heap.size) (by repeat (first | (with_reducible exact Below.refl _ _) | (with_reducible refine below_ov ?_ ?_) | (with_reducible refine Below.setCell ?_ ?_ _) | (with_reducible refine Below.alloc ?_ ?_ _) | (with_reducible refine Below.drew ?_) | (with_reducible refine below_drewN ?_ _) | (refine Below.trans ?_ (Below.mono ‹Below _ _ _› (by first | omega | (simp; done) | (simp; omega)))) | exact Below.refl _ _ | omega | (focus (simp; done)) | (focus (simp; omega)))) hhi) (by first | omega | (simp; done) | (simp; omega)) (by omega) (by first | omega | (simp; done) | (simp; omega)) p1).mono ?_
  rintro e w1 ⟨rfl, hb1⟩
  have hz1 := hb1.size
  go_wp2_with fail
  go_loopw [5, 6] (fun o a wr => ∃ (k : Nat) (B : Option Addr) (cp : Nat) (xs : List Value), k ≤ 999 ∧ o = .slice B k cp ∧ a = .int .i64 (fstI (mk1 R.f R.m x ((k : Int) + 1)) R.n) ∧ Hid (∀ j, j < k → gotI R x j = true) ∧ Hid (wr.ownsRow w.heap.size 9 1 (.slice B k cp) k xs) ∧ Below w.heap.size w wr) (fun o _ _ => 1000 - (match o with | .slice _ n _ => n | _ => 0))
  case atStart => exact ⟨0, none, 0, [], by omega, rfl, rfl, fun j hj => by omega, World.ownsRow_nil _ _ _ _, hb1⟩
  case round =>
    obtain ⟨k, B, cp, xs, hk, rfl, rfl, hj, hown, hb⟩ := hrel
    have hzr := hb.size
    have q1 := (hb.cell (p := ⟨pb, 1, none⟩) hp).trans p1
    have hle := fstI_le (p := mk1 R.f R.m x ((k : Int) + 1)) (n := R.n)
    cases hg : gotI R x k with
    | true =>
      have HG := hide hg
      have hg' : decide (0 ≤ fstI (mk1 R.f R.m x ((k : Int) + 1)) R.n) = true := hg
      have hk9 := got_small HC.out hg
      rcases fstI_cases (mk1 R.f R.m x ((k : Int) + 1)) R.n with ⟨e, _⟩ | ⟨j, hjn, e, _, _⟩
      · exfalso
        have := of_decide_eq_true hg'
        omega
      obtain ⟨blk, off, rfl, h1, h2, h3⟩ := (hA.below hb (by omega)) (by omega)
      have c2 : wr.cell? ⟨blk, off + j * 3 + 2, none⟩ = some (.string (R.g j)) := h3 j 2 hjn (by omega)
      clear h3 hA hg' hle
      rw [e]
      clear e
      go_wp2_with (at_builtin; refine wpList_append_own _ rfl _ _ 63 rfl w.heap.size 9 i0 (.string ⟨#[]⟩) 1 16 Try.underlying63 hi0 iz0 iz1 iz2 rfl (by decide) _ _ _ rfl (hown.out.alloc _) ⟨wr.heap.size, 0, none⟩ 1 1 [.string (R.g j)] rfl rfl ?_ ?_ ?_ ?_ ?_ ?_)
      · intro i u hu
        match i, hu with
        | 0, hu => simp at hu; subst hu; simp [go_sem, Addr.add]
      · intro u hu; simp at hu; subst hu; rfl
      · unfold maxLen; omega
      · omega
      · simp; omega
      intro v' w2 hown2 hg2 _
      have hb2 : Below w.heap.size w w2 := (hb.alloc (by omega) _).grown hg2 (by simp; omega) (fun g hg => (hown.out.lt g hg).1)
      have hz2 := hb2.size
      obtain ⟨B2, cp2, rfl⟩ : ∃ B2 cp2, v' = .slice B2 (k + 1) cp2 := by
        rcases hown2.2 with ⟨h1, h2⟩ | ⟨g, cap, cur, h1, _⟩
        · omega
        · exact ⟨_, cap, h1⟩
      have hown3 := hide hown2
      clear hown2 hg2 hown
      have q2 := (hb2.cell (p := ⟨pb, 1, none⟩) hp).trans p1
      go_wp2_with (go_at_call 42; refine (received_any R x ((k : Int) + 1 + 1) lo hi pb _ _ (hR.below (B := w.heap.size) (by repeat (first | (with_reducible exact Below.refl _ _) | (with_reducible refine below_ov ?_ ?_) | (with_reducible refine Below.setCell ?_ ?_ _) | (with_reducible refine Below.alloc ?_ ?_ _) | (with_reducible refine Below.drew ?_) | (with_reducible refine below_drewN ?_ _) | (refine Below.trans ?_ (Below.mono ‹Below _ _ _› (by first | omega | (simp; done) | (simp; omega)))) | exact Below.refl _ _ | omega | (focus (simp; done)) | (focus (simp; omega)))) hhi) (by omega) (by omega) (by omega) q2).mono ?_; rintro e w3 ⟨rfl, hb3⟩; have hz3 := hb3.size; (try (simp at hz3)); obtain ⟨hcw3, hfw3⟩ := bcell hb3; (try (have hy3 : w.heap.size < w3.heap.size := by omega)); (try (have hyy3 : w.heap.size + 1 < w3.heap.size := by omega)); (try (have hyyy3 : w.heap.size + 1 + 1 < w3.heap.size := by omega)))
      go_roundw
      case rel => exact ⟨k + 1, B2, cp2, _, by omega, rfl, by simp, upto_snoc hj.out HG.out, hide (row_below hown3.out hb3 (Nat.le_refl _)), (by repeat (first | (with_reducible exact Below.refl _ _) | (with_reducible refine below_ov ?_ ?_) | (with_reducible refine Below.setCell ?_ ?_ _) | (with_reducible refine Below.alloc ?_ ?_ _) | (with_reducible refine Below.drew ?_) | (with_reducible refine below_drewN ?_ _) | (refine Below.trans ?_ (Below.mono ‹Below _ _ _› (by first | omega | (simp; done) | (simp; omega)))) | exact Below.refl _ _ | omega | (focus (simp; done)) | (focus (simp; omega))))⟩
      case measure => show 1000 - (k + 1) < 1000 - k; omega
    | false =>
      have hg' : decide (0 ≤ fstI (mk1 R.f R.m x ((k : Int) + 1)) R.n) = false := hg
      have HE : Hid (nxK R x = k) := nxK_at HC.out hk hj.out hg
      go_wp2_with fail
      go_ret
      exact ⟨B, cp, by rw [HE.out]; rfl, (by repeat (first | (with_reducible exact Below.refl _ _) | (with_reducible refine below_ov ?_ ?_) | (with_reducible refine Below.setCell ?_ ?_ _) | (with_reducible refine Below.alloc ?_ ?_ _) | (with_reducible refine Below.drew ?_) | (with_reducible refine below_drewN ?_ _) | (refine Below.trans ?_ (Below.mono ‹Below _ _ _› (by first | omega | (simp; done) | (simp; omega)))) | exact Below.refl _ _ | omega | (focus (simp; done)) | (focus (simp; omega))))⟩
set_option maxRecDepth 100000 in
set_option maxHeartbeats 1600000 in
theorem NextInOrder_impl (S R H : Ms) (x : ByteArray) (lo hi : Nat) (vS vR vH : Value) (w : World) (hS : Sl w lo hi 3 vS S.n S.c) (hR : Sl w lo hi 3 vR R.n R.c) (hH : Sl w lo hi 3 vH H.n H.c) (hhi : hi ≤ w.heap.size) (fS : S.fits) (fR : R.fits) (fH : H.fits) (hx : x.size ≤ maxLen) :
    Calls Try.prog 24 #[.agg #[vS, vR, vH], .string x] w fun e w' => e = .returned (.tuple #[.int .i64 (nxN S R H x), .bool (nmOk S R H x)]) ∧ Below w.heap.size w w' := by
  have hRn := fR.1
  have hk9 : nxK R x ≤ 1000 := (lead_spec _ _).1
  cases hc1_0 : chanB S R H with
  | false =>
    have HA : Hid (nmOk S R H x = false) := by show nmOk S R H x = false; simp [nmOk, *]
    go_enter Try.func24, Try.ntmps24
    go_wp2_with (first | (go_at_call 36; refine (isChannel_any S R H lo hi w.heap.size vS vR vH _ (hS.below (B := w.heap.size) (by repeat (first | (with_reducible exact Below.refl _ _) | (with_reducible refine below_ov ?_ ?_) | (with_reducible refine Below.setCell ?_ ?_ _) | (with_reducible refine Below.alloc ?_ ?_ _) | (with_reducible refine Below.drew ?_) | (with_reducible refine below_drewN ?_ _) | (refine Below.trans ?_ (Below.mono ‹Below _ _ _› (by first | omega | (simp; done) | (simp; omega)))) | exact Below.refl _ _ | omega | (focus (simp; done)) | (focus (simp; omega)))) hhi) (hR.below (B := w.heap.size) (by repeat (first | (with_reducible exact Below.refl _ _) | (with_reducible refine below_ov ?_ ?_) | (with_reducible refine Below.setCell ?_ ?_ _) | (with_reducible refine Below.alloc ?_ ?_ _) | (with_reducible refine Below.drew ?_) | (with_reducible refine below_drewN ?_ _) | (refine Below.trans ?_ (Below.mono ‹Below _ _ _› (by first | omega | (simp; done) | (simp; omega)))) | exact Below.refl _ _ | omega | (focus (simp; done)) | (focus (simp; omega)))) hhi) (hH.below (B := w.heap.size) (by repeat (first | (with_reducible exact Below.refl _ _) | (with_reducible refine below_ov ?_ ?_) | (with_reducible refine Below.setCell ?_ ?_ _) | (with_reducible refine Below.alloc ?_ ?_ _) | (with_reducible refine Below.drew ?_) | (with_reducible refine below_drewN ?_ _) | (refine Below.trans ?_ (Below.mono ‹Below _ _ _› (by first | omega | (simp; done) | (simp; omega)))) | exact Below.refl _ _ | omega | (focus (simp; done)) | (focus (simp; omega)))) hhi) (by simp; omega) fS fR fH (by simp) (World.cell?_alloc_new _ _ _ _) (World.cell?_alloc_new _ _ _ _) (World.cell?_alloc_new _ _ _ _)).mono ?_; rintro e w1 ⟨rfl, hb1⟩; have hz1 := hb1.size; (try (simp at hz1)); obtain ⟨hcw1, hfw1⟩ := bcell hb1; (try (have hy1 : w.heap.size < w1.heap.size := by omega)); (try (have hyy1 : w.heap.size + 1 < w1.heap.size := by omega)); (try (have hyyy1 : w.heap.size + 1 + 1 < w1.heap.size := by omega))) | (go_at_call 40; refine (isName_any _ _ hx).mono ?_; rintro e w2 ⟨rfl, hd2⟩; obtain ⟨n2, rfl⟩ := hd2))
    go_ret2
    exact ⟨ret_ib (by rw [nxN, HA.out]; rfl) HA.out.symm, (by repeat (first | (with_reducible exact Below.refl _ _) | (with_reducible refine below_ov ?_ ?_) | (with_reducible refine Below.setCell ?_ ?_ _) | (with_reducible refine Below.alloc ?_ ?_ _) | (with_reducible refine Below.drew ?_) | (with_reducible refine below_drewN ?_ _) | (refine Below.trans ?_ (Below.mono ‹Below _ _ _› (by first | omega | (simp; done) | (simp; omega)))) | exact Below.refl _ _ | omega | (focus (simp; done)) | (focus (simp; omega))))⟩
  | true =>
    cases hc1_1 : nameB x with
    | false =>
      have HA : Hid (nmOk S R H x = false) := by show nmOk S R H x = false; simp [nmOk, *]
      go_enter Try.func24, Try.ntmps24
      go_wp2_with (first | (go_at_call 36; refine (isChannel_any S R H lo hi w.heap.size vS vR vH _ (hS.below (B := w.heap.size) (by repeat (first | (with_reducible exact Below.refl _ _) | (with_reducible refine below_ov ?_ ?_) | (with_reducible refine Below.setCell ?_ ?_ _) | (with_reducible refine Below.alloc ?_ ?_ _) | (with_reducible refine Below.drew ?_) | (with_reducible refine below_drewN ?_ _) | (refine Below.trans ?_ (Below.mono ‹Below _ _ _› (by first | omega | (simp; done) | (simp; omega)))) | exact Below.refl _ _ | omega | (focus (simp; done)) | (focus (simp; omega)))) hhi) (hR.below (B := w.heap.size) (by repeat (first | (with_reducible exact Below.refl _ _) | (with_reducible refine below_ov ?_ ?_) | (with_reducible refine Below.setCell ?_ ?_ _) | (with_reducible refine Below.alloc ?_ ?_ _) | (with_reducible refine Below.drew ?_) | (with_reducible refine below_drewN ?_ _) | (refine Below.trans ?_ (Below.mono ‹Below _ _ _› (by first | omega | (simp; done) | (simp; omega)))) | exact Below.refl _ _ | omega | (focus (simp; done)) | (focus (simp; omega)))) hhi) (hH.below (B := w.heap.size) (by repeat (first | (with_reducible exact Below.refl _ _) | (with_reducible refine below_ov ?_ ?_) | (with_reducible refine Below.setCell ?_ ?_ _) | (with_reducible refine Below.alloc ?_ ?_ _) | (with_reducible refine Below.drew ?_) | (with_reducible refine below_drewN ?_ _) | (refine Below.trans ?_ (Below.mono ‹Below _ _ _› (by first | omega | (simp; done) | (simp; omega)))) | exact Below.refl _ _ | omega | (focus (simp; done)) | (focus (simp; omega)))) hhi) (by simp; omega) fS fR fH (by simp) (World.cell?_alloc_new _ _ _ _) (World.cell?_alloc_new _ _ _ _) (World.cell?_alloc_new _ _ _ _)).mono ?_; rintro e w1 ⟨rfl, hb1⟩; have hz1 := hb1.size; (try (simp at hz1)); obtain ⟨hcw1, hfw1⟩ := bcell hb1; (try (have hy1 : w.heap.size < w1.heap.size := by omega)); (try (have hyy1 : w.heap.size + 1 < w1.heap.size := by omega)); (try (have hyyy1 : w.heap.size + 1 + 1 < w1.heap.size := by omega))) | (go_at_call 40; refine (isName_any _ _ hx).mono ?_; rintro e w2 ⟨rfl, hd2⟩; obtain ⟨n2, rfl⟩ := hd2))
      go_ret2
      exact ⟨ret_ib (by rw [nxN, HA.out]; rfl) HA.out.symm, (by repeat (first | (with_reducible exact Below.refl _ _) | (with_reducible refine below_ov ?_ ?_) | (with_reducible refine Below.setCell ?_ ?_ _) | (with_reducible refine Below.alloc ?_ ?_ _) | (with_reducible refine Below.drew ?_) | (with_reducible refine below_drewN ?_ _) | (refine Below.trans ?_ (Below.mono ‹Below _ _ _› (by first | omega | (simp; done) | (simp; omega)))) | exact Below.refl _ _ | omega | (focus (simp; done)) | (focus (simp; omega))))⟩
    | true =>
      have HA : Hid (nmOk S R H x = true) := by show nmOk S R H x = true; simp [nmOk, *]
      have HN : Hid (nxN S R H x = (nxK R x : Nat) + 1) := by show _ = _; rw [nxN, HA.out]; rfl
      have HC := hide (show chanB S R H = true by simp [*])
      go_enter Try.func24, Try.ntmps24
      go_wp2_with (first | (go_at_call 36; refine (isChannel_any S R H lo hi w.heap.size vS vR vH _ (hS.below (B := w.heap.size) (by repeat (first | (with_reducible exact Below.refl _ _) | (with_reducible refine below_ov ?_ ?_) | (with_reducible refine Below.setCell ?_ ?_ _) | (with_reducible refine Below.alloc ?_ ?_ _) | (with_reducible refine Below.drew ?_) | (with_reducible refine below_drewN ?_ _) | (refine Below.trans ?_ (Below.mono ‹Below _ _ _› (by first | omega | (simp; done) | (simp; omega)))) | exact Below.refl _ _ | omega | (focus (simp; done)) | (focus (simp; omega)))) hhi) (hR.below (B := w.heap.size) (by repeat (first | (with_reducible exact Below.refl _ _) | (with_reducible refine below_ov ?_ ?_) | (with_reducible refine Below.setCell ?_ ?_ _) | (with_reducible refine Below.alloc ?_ ?_ _) | (with_reducible refine Below.drew ?_) | (with_reducible refine below_drewN ?_ _) | (refine Below.trans ?_ (Below.mono ‹Below _ _ _› (by first | omega | (simp; done) | (simp; omega)))) | exact Below.refl _ _ | omega | (focus (simp; done)) | (focus (simp; omega)))) hhi) (hH.below (B := w.heap.size) (by repeat (first | (with_reducible exact Below.refl _ _) | (with_reducible refine below_ov ?_ ?_) | (with_reducible refine Below.setCell ?_ ?_ _) | (with_reducible refine Below.alloc ?_ ?_ _) | (with_reducible refine Below.drew ?_) | (with_reducible refine below_drewN ?_ _) | (refine Below.trans ?_ (Below.mono ‹Below _ _ _› (by first | omega | (simp; done) | (simp; omega)))) | exact Below.refl _ _ | omega | (focus (simp; done)) | (focus (simp; omega)))) hhi) (by simp; omega) fS fR fH (by simp) (World.cell?_alloc_new _ _ _ _) (World.cell?_alloc_new _ _ _ _) (World.cell?_alloc_new _ _ _ _)).mono ?_; rintro e w1 ⟨rfl, hb1⟩; have hz1 := hb1.size; (try (simp at hz1)); obtain ⟨hcw1, hfw1⟩ := bcell hb1; (try (have hy1 : w.heap.size < w1.heap.size := by omega)); (try (have hyy1 : w.heap.size + 1 < w1.heap.size := by omega)); (try (have hyyy1 : w.heap.size + 1 + 1 < w1.heap.size := by omega))) | (go_at_call 40; refine (isName_any _ _ hx).mono ?_; rintro e w2 ⟨rfl, hd2⟩; obtain ⟨n2, rfl⟩ := hd2))
      refine (inOrder_any S R H x lo hi w.heap.size vR (w1.drewN n2) (hR.below (B := w.heap.size) (by repeat (first | (with_reducible exact Below.refl _ _) | (with_reducible refine below_ov ?_ ?_) | (with_reducible refine Below.setCell ?_ ?_ _) | (with_reducible refine Below.alloc ?_ ?_ _) | (with_reducible refine Below.drew ?_) | (with_reducible refine below_drewN ?_ _) | (refine Below.trans ?_ (Below.mono ‹Below _ _ _› (by first | omega | (simp; done) | (simp; omega)))) | exact Below.refl _ _ | omega | (focus (simp; done)) | (focus (simp; omega)))) hhi) (by first | omega | (simp; done) | (simp; omega)) (by omega) HC.out (by first | omega | (simp; done) | (simp; omega)) (by simpa using (hb1.cell (p := ⟨w.heap.size, 1, none⟩) (by simp)).trans (World.cell?_alloc_new _ _ _ _))).mono ?_
      rintro e w3 ⟨B3, c3, rfl, hb3⟩
      have hz3 := hb3.size
      go_wp2_with fail
      go_ret2
      exact ⟨ret_ib HN.out.symm HA.out.symm, (by repeat (first | (with_reducible exact Below.refl _ _) | (with_reducible refine below_ov ?_ ?_) | (with_reducible refine Below.setCell ?_ ?_ _) | (with_reducible refine Below.alloc ?_ ?_ _) | (with_reducible refine Below.drew ?_) | (with_reducible refine below_drewN ?_ _) | (refine Below.trans ?_ (Below.mono ‹Below _ _ _› (by first | omega | (simp; done) | (simp; omega)))) | exact Below.refl _ _ | omega | (focus (simp; done)) | (focus (simp; omega))))⟩
set_option maxRecDepth 100000 in
set_option maxHeartbeats 1600000 in
theorem NextInOrder_spec (S R H : Ms) (x : ByteArray) (lo hi : Nat) (vS vR vH : Value) (w : World) (hS : Sl w lo hi 3 vS S.n S.c) (hR : Sl w lo hi 3 vR R.n R.c) (hH : Sl w lo hi 3 vH H.n H.c) (hhi : hi ≤ w.heap.size) (fS : S.fits) (fR : R.fits) (fH : H.fits) (hx : x.size ≤ maxLen) :
    Calls Try.prog 23 #[.agg #[vS, vR, vH], .string x] w fun e w' => e = .returned (.tuple #[.int .i64 (nxN S R H x), .bool (nmOk S R H x)]) ∧ Below w.heap.size w w' := by
  have hRn := fR.1
  have hk9 : nxK R x ≤ 1000 := (lead_spec _ _).1
  cases hc2_0 : chanB S R H with
  | false =>
    have HA : Hid (nmOk S R H x = false) := by show nmOk S R H x = false; simp [nmOk, *]
    go_enter Try.func23, Try.ntmps23
    go_wp2_with (first | (go_at_call 34; refine (raGood_any S R H lo hi vS vR vH _ (hS.below (B := w.heap.size) (by repeat (first | (with_reducible exact Below.refl _ _) | (with_reducible refine below_ov ?_ ?_) | (with_reducible refine Below.setCell ?_ ?_ _) | (with_reducible refine Below.alloc ?_ ?_ _) | (with_reducible refine Below.drew ?_) | (with_reducible refine below_drewN ?_ _) | (refine Below.trans ?_ (Below.mono ‹Below _ _ _› (by first | omega | (simp; done) | (simp; omega)))) | exact Below.refl _ _ | omega | (focus (simp; done)) | (focus (simp; omega)))) hhi) (hR.below (B := w.heap.size) (by repeat (first | (with_reducible exact Below.refl _ _) | (with_reducible refine below_ov ?_ ?_) | (with_reducible refine Below.setCell ?_ ?_ _) | (with_reducible refine Below.alloc ?_ ?_ _) | (with_reducible refine Below.drew ?_) | (with_reducible refine below_drewN ?_ _) | (refine Below.trans ?_ (Below.mono ‹Below _ _ _› (by first | omega | (simp; done) | (simp; omega)))) | exact Below.refl _ _ | omega | (focus (simp; done)) | (focus (simp; omega)))) hhi) (hH.below (B := w.heap.size) (by repeat (first | (with_reducible exact Below.refl _ _) | (with_reducible refine below_ov ?_ ?_) | (with_reducible refine Below.setCell ?_ ?_ _) | (with_reducible refine Below.alloc ?_ ?_ _) | (with_reducible refine Below.drew ?_) | (with_reducible refine below_drewN ?_ _) | (refine Below.trans ?_ (Below.mono ‹Below _ _ _› (by first | omega | (simp; done) | (simp; omega)))) | exact Below.refl _ _ | omega | (focus (simp; done)) | (focus (simp; omega)))) hhi) (by simp; omega) fS fR fH).mono ?_; rintro e w1 ⟨rfl, hb1⟩; have hz1 := hb1.size; (try (simp at hz1)); obtain ⟨hcw1, hfw1⟩ := bcell hb1; (try (have hy1 : w.heap.size < w1.heap.size := by omega)); (try (have hyy1 : w.heap.size + 1 < w1.heap.size := by omega)); (try (have hyyy1 : w.heap.size + 1 + 1 < w1.heap.size := by omega))) | (go_at_call 37; refine (apName_any _ _ hx).mono ?_; rintro e w2 ⟨rfl, hd2⟩; obtain ⟨n2, rfl⟩ := hd2))
    go_ret2
    exact ⟨ret_ib (by rw [nxN, HA.out]; rfl) HA.out.symm, (by repeat (first | (with_reducible exact Below.refl _ _) | (with_reducible refine below_ov ?_ ?_) | (with_reducible refine Below.setCell ?_ ?_ _) | (with_reducible refine Below.alloc ?_ ?_ _) | (with_reducible refine Below.drew ?_) | (with_reducible refine below_drewN ?_ _) | (refine Below.trans ?_ (Below.mono ‹Below _ _ _› (by first | omega | (simp; done) | (simp; omega)))) | exact Below.refl _ _ | omega | (focus (simp; done)) | (focus (simp; omega))))⟩
  | true =>
    cases hc2_1 : nameB x with
    | false =>
      have HA : Hid (nmOk S R H x = false) := by show nmOk S R H x = false; simp [nmOk, *]
      go_enter Try.func23, Try.ntmps23
      go_wp2_with (first | (go_at_call 34; refine (raGood_any S R H lo hi vS vR vH _ (hS.below (B := w.heap.size) (by repeat (first | (with_reducible exact Below.refl _ _) | (with_reducible refine below_ov ?_ ?_) | (with_reducible refine Below.setCell ?_ ?_ _) | (with_reducible refine Below.alloc ?_ ?_ _) | (with_reducible refine Below.drew ?_) | (with_reducible refine below_drewN ?_ _) | (refine Below.trans ?_ (Below.mono ‹Below _ _ _› (by first | omega | (simp; done) | (simp; omega)))) | exact Below.refl _ _ | omega | (focus (simp; done)) | (focus (simp; omega)))) hhi) (hR.below (B := w.heap.size) (by repeat (first | (with_reducible exact Below.refl _ _) | (with_reducible refine below_ov ?_ ?_) | (with_reducible refine Below.setCell ?_ ?_ _) | (with_reducible refine Below.alloc ?_ ?_ _) | (with_reducible refine Below.drew ?_) | (with_reducible refine below_drewN ?_ _) | (refine Below.trans ?_ (Below.mono ‹Below _ _ _› (by first | omega | (simp; done) | (simp; omega)))) | exact Below.refl _ _ | omega | (focus (simp; done)) | (focus (simp; omega)))) hhi) (hH.below (B := w.heap.size) (by repeat (first | (with_reducible exact Below.refl _ _) | (with_reducible refine below_ov ?_ ?_) | (with_reducible refine Below.setCell ?_ ?_ _) | (with_reducible refine Below.alloc ?_ ?_ _) | (with_reducible refine Below.drew ?_) | (with_reducible refine below_drewN ?_ _) | (refine Below.trans ?_ (Below.mono ‹Below _ _ _› (by first | omega | (simp; done) | (simp; omega)))) | exact Below.refl _ _ | omega | (focus (simp; done)) | (focus (simp; omega)))) hhi) (by simp; omega) fS fR fH).mono ?_; rintro e w1 ⟨rfl, hb1⟩; have hz1 := hb1.size; (try (simp at hz1)); obtain ⟨hcw1, hfw1⟩ := bcell hb1; (try (have hy1 : w.heap.size < w1.heap.size := by omega)); (try (have hyy1 : w.heap.size + 1 < w1.heap.size := by omega)); (try (have hyyy1 : w.heap.size + 1 + 1 < w1.heap.size := by omega))) | (go_at_call 37; refine (apName_any _ _ hx).mono ?_; rintro e w2 ⟨rfl, hd2⟩; obtain ⟨n2, rfl⟩ := hd2))
      go_ret2
      exact ⟨ret_ib (by rw [nxN, HA.out]; rfl) HA.out.symm, (by repeat (first | (with_reducible exact Below.refl _ _) | (with_reducible refine below_ov ?_ ?_) | (with_reducible refine Below.setCell ?_ ?_ _) | (with_reducible refine Below.alloc ?_ ?_ _) | (with_reducible refine Below.drew ?_) | (with_reducible refine below_drewN ?_ _) | (refine Below.trans ?_ (Below.mono ‹Below _ _ _› (by first | omega | (simp; done) | (simp; omega)))) | exact Below.refl _ _ | omega | (focus (simp; done)) | (focus (simp; omega))))⟩
    | true =>
      have HA : Hid (nmOk S R H x = true) := by show nmOk S R H x = true; simp [nmOk, *]
      have HN : Hid (nxN S R H x = (nxK R x : Nat) + 1) := by show _ = _; rw [nxN, HA.out]; rfl
      have HC := hide (show chanB S R H = true by simp [*])
      go_enter Try.func23, Try.ntmps23
      go_wp2_with (first | (go_at_call 34; refine (raGood_any S R H lo hi vS vR vH _ (hS.below (B := w.heap.size) (by repeat (first | (with_reducible exact Below.refl _ _) | (with_reducible refine below_ov ?_ ?_) | (with_reducible refine Below.setCell ?_ ?_ _) | (with_reducible refine Below.alloc ?_ ?_ _) | (with_reducible refine Below.drew ?_) | (with_reducible refine below_drewN ?_ _) | (refine Below.trans ?_ (Below.mono ‹Below _ _ _› (by first | omega | (simp; done) | (simp; omega)))) | exact Below.refl _ _ | omega | (focus (simp; done)) | (focus (simp; omega)))) hhi) (hR.below (B := w.heap.size) (by repeat (first | (with_reducible exact Below.refl _ _) | (with_reducible refine below_ov ?_ ?_) | (with_reducible refine Below.setCell ?_ ?_ _) | (with_reducible refine Below.alloc ?_ ?_ _) | (with_reducible refine Below.drew ?_) | (with_reducible refine below_drewN ?_ _) | (refine Below.trans ?_ (Below.mono ‹Below _ _ _› (by first | omega | (simp; done) | (simp; omega)))) | exact Below.refl _ _ | omega | (focus (simp; done)) | (focus (simp; omega)))) hhi) (hH.below (B := w.heap.size) (by repeat (first | (with_reducible exact Below.refl _ _) | (with_reducible refine below_ov ?_ ?_) | (with_reducible refine Below.setCell ?_ ?_ _) | (with_reducible refine Below.alloc ?_ ?_ _) | (with_reducible refine Below.drew ?_) | (with_reducible refine below_drewN ?_ _) | (refine Below.trans ?_ (Below.mono ‹Below _ _ _› (by first | omega | (simp; done) | (simp; omega)))) | exact Below.refl _ _ | omega | (focus (simp; done)) | (focus (simp; omega)))) hhi) (by simp; omega) fS fR fH).mono ?_; rintro e w1 ⟨rfl, hb1⟩; have hz1 := hb1.size; (try (simp at hz1)); obtain ⟨hcw1, hfw1⟩ := bcell hb1; (try (have hy1 : w.heap.size < w1.heap.size := by omega)); (try (have hyy1 : w.heap.size + 1 < w1.heap.size := by omega)); (try (have hyyy1 : w.heap.size + 1 + 1 < w1.heap.size := by omega))) | (go_at_call 37; refine (apName_any _ _ hx).mono ?_; rintro e w2 ⟨rfl, hd2⟩; obtain ⟨n2, rfl⟩ := hd2))
      refine (raNext_any S R H x lo hi vS vR vH _ (hR.below (B := w.heap.size) (by repeat (first | (with_reducible exact Below.refl _ _) | (with_reducible refine below_ov ?_ ?_) | (with_reducible refine Below.setCell ?_ ?_ _) | (with_reducible refine Below.alloc ?_ ?_ _) | (with_reducible refine Below.drew ?_) | (with_reducible refine below_drewN ?_ _) | (refine Below.trans ?_ (Below.mono ‹Below _ _ _› (by first | omega | (simp; done) | (simp; omega)))) | exact Below.refl _ _ | omega | (focus (simp; done)) | (focus (simp; omega)))) hhi) (by first | omega | (simp; done) | (simp; omega)) (by omega) HC.out).mono ?_
      rintro e w3 ⟨rfl, hb3⟩
      have hz3 := hb3.size
      go_wp2_with fail
      go_ret2
      exact ⟨ret_ib HN.out.symm HA.out.symm, (by repeat (first | (with_reducible exact Below.refl _ _) | (with_reducible refine below_ov ?_ ?_) | (with_reducible refine Below.setCell ?_ ?_ _) | (with_reducible refine Below.alloc ?_ ?_ _) | (with_reducible refine Below.drew ?_) | (with_reducible refine below_drewN ?_ _) | (refine Below.trans ?_ (Below.mono ‹Below _ _ _› (by first | omega | (simp; done) | (simp; omega)))) | exact Below.refl _ _ | omega | (focus (simp; done)) | (focus (simp; omega))))⟩

end Go.Proofs.Yteaiiccdplfakaa
