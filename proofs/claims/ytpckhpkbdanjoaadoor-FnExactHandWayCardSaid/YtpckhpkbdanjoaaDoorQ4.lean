/-
  Texts of this proof, one behind the other (part 4).
-/
import Derived.Test.YtpckhpkbdanjoaaDoorQ3
import Derived.Deep.Onto
import Derived.Deep.LoopGhost
import Derived.Deep.DeepAppendRoom
/-
  Walks: the library's search of a list of cells, at the closures of SearchedCells.-/
namespace Go.Proofs.YtpckhpkbdanjoaaDoor
set_option linter.unusedVariables false
set_option linter.unusedSimpArgs false
open Go.RowKit

set_option maxHeartbeats 800000 in
theorem near1_any (x y a b : Int) (rb cb : Nat) (w : World) (hr : w.cell? ⟨rb, 0, none⟩ = some (.int .i64 x)) (hc : w.cell? ⟨cb, 0, none⟩ = some (.int .i64 y)) (lr : rb < w.heap.size) (lc : cb < w.heap.size)
    (hx : 0 ≤ x) (hx' : x ≤ 1000) (hy : 0 ≤ y) (hy' : y ≤ 1000) (hp : (0 ≤ a ∧ a ≤ 1000) ∧ 0 ≤ b ∧ b ≤ 1000) :
    Calls Tryd.prog 94 #[.agg #[.int .i64 a, .int .i64 b], .pointer (some ⟨rb, 0, none⟩), .pointer (some ⟨cb, 0, none⟩)] w fun e w' => e = .returned (.bool (nearB x y a b)) ∧ Below w.heap.size w w' := by
  have z1 : IntKind.i64.wrap (a - x) = a - x := IntWalk.i64_in _ (by omega)
  have z2 : IntKind.i64.wrap (b - y) = b - y := IntWalk.i64_in _ (by omega)
  cases e1 : inB (a - x) (-1) 1 with
  | false =>
    have HG : Hid (nearB x y a b = false) := by show _ = _; rw [nearB, e1]; rfl
    go_enter Tryd.func94, Tryd.ntmps94
    go_wp2_with (first | (go_at_call 68; refine (inside_any _ _ _ _).mono ?_; rintro e w' ⟨rfl, rfl⟩))
    go_ret
    exact ⟨ret_bool HG.out.symm, (by repeat (first | (with_reducible exact Below.refl _ _) | (with_reducible refine below_ov ?_ ?_) | (with_reducible refine Below.setCell ?_ ?_ _) | (with_reducible refine Below.alloc ?_ ?_ _) | (with_reducible refine Below.drew ?_) | (with_reducible refine below_drewN ?_ _) | (refine Below.trans ?_ (Below.mono ‹Below _ _ _› (by first | omega | (simp; done) | (simp; omega)))) | exact Below.refl _ _ | omega | (focus (simp; done)) | (focus (simp; omega))))⟩
  | true =>
    have HG : Hid (nearB x y a b = inB (b - y) (-1) 1) := by show _ = _; rw [nearB, e1]; rfl
    go_enter Tryd.func94, Tryd.ntmps94
    go_wp2_with (first | (go_at_call 68; refine (inside_any _ _ _ _).mono ?_; rintro e w' ⟨rfl, rfl⟩))
    go_ret
    exact ⟨ret_bool HG.out.symm, (by repeat (first | (with_reducible exact Below.refl _ _) | (with_reducible refine below_ov ?_ ?_) | (with_reducible refine Below.setCell ?_ ?_ _) | (with_reducible refine Below.alloc ?_ ?_ _) | (with_reducible refine Below.drew ?_) | (with_reducible refine below_drewN ?_ _) | (refine Below.trans ?_ (Below.mono ‹Below _ _ _› (by first | omega | (simp; done) | (simp; omega)))) | exact Below.refl _ _ | omega | (focus (simp; done)) | (focus (simp; omega))))⟩
set_option maxRecDepth 100000 in
set_option maxHeartbeats 1600000 in
theorem IndexFuncN_any (x y : Int) (rb cb : Nat) (p q : Nat → Int) (m lo2 hi2 : Nat) (u : Value) (w : World) (hu : Sl w lo2 hi2 2 u m (iiC p q)) (hhi2 : hi2 ≤ w.heap.size) (hm : m ≤ 1048576) (hr : w.cell? ⟨rb, 0, none⟩ = some (.int .i64 x)) (hc : w.cell? ⟨cb, 0, none⟩ = some (.int .i64 y)) (lr : rb < w.heap.size) (lc : cb < w.heap.size) (hx : 0 ≤ x) (hx' : x ≤ 1000) (hy : 0 ≤ y) (hy' : y ≤ 1000) (hp : ∀ t, t < m → (0 ≤ p t ∧ p t ≤ 1000) ∧ 0 ≤ q t ∧ q t ≤ 1000) :
    Calls Tryd.prog 93 #[u, .func (.func 94) #[] #[.pointer (some ⟨rb, 0, none⟩), .pointer (some ⟨cb, 0, none⟩)]] w fun e w' => e = .returned (.int .i64 (fstI (fun t => nearB x y (p t) (q t)) m)) ∧ Below w.heap.size w w' := by
  obtain ⟨A, cap, rfl, hcap, hA⟩ := hu.open_
  clear hu
  go_enter Tryd.func93, Tryd.ntmps93
  go_wp2_with fail
  go_loopw [8] (fun i wr => ∃ k : Nat, k ≤ m ∧ i = .int .i64 k ∧ Hid (∀ j, j < k → (fun t => nearB x y (p t) (q t)) j = false) ∧ Below w.heap.size w wr) (fun i _ => m - (intOf i).toNat)
  case atStart => exact ⟨0, by omega, rfl, fun j hj => by omega, Below.refl _ _⟩
  case round =>
    obtain ⟨k, hk, rfl, hj, hb⟩ := hrel
    have hzr := hb.size
    by_cases hkn : k < m
    · obtain ⟨blk, off, rfl, h1, h2, h3⟩ := (hA.below hb (by omega)) (by omega)
      have c0 : wr.cell? ⟨blk, off + k * 2, none⟩ = some (.int .i64 (p k)) := by simpa [iiC] using h3 k 0 hkn (by omega)
      have c1 : wr.cell? ⟨blk, off + k * 2 + 1, none⟩ = some (.int .i64 (q k)) := by simpa [iiC] using h3 k 1 hkn (by omega)
      clear h3 hA
      obtain ⟨tst, htst⟩ : ∃ b, (fun t => nearB x y (p t) (q t)) k = b := ⟨_, rfl⟩
      have HT := hide htst
      have hcon := near1_any x y (p k) (q k) rb cb wr ((hb.cell (p := ⟨rb, 0, none⟩) lr).trans hr) ((hb.cell (p := ⟨cb, 0, none⟩) lc).trans hc) (by omega) (by omega) hx hx' hy hy' (hp k hkn)
      rw [show nearB x y (p k) (q k) = tst from htst] at hcon
      clear htst
      cases tst with
      | false =>
        go_wp2_with fail
        refine hcon.mono ?_
        rintro e w2 ⟨rfl, hb2⟩
        have hz2 := hb2.size
        have hbw : Below w.heap.size w w2 := hb.trans (hb2.mono hzr)
        go_wp2_with fail
        go_roundw
        case rel => exact ⟨k + 1, by omega, by go_num, upto_snocF hj.out HT.out, hbw⟩
        case measure => simp [intOf]; omega
      | true =>
        have HG : Hid (fstI (fun t => nearB x y (p t) (q t)) m = k) := fstI_at hkn hj.out HT.out
        go_wp2_with fail
        refine hcon.mono ?_
        rintro e w2 ⟨rfl, hb2⟩
        have hbw : Below w.heap.size w w2 := hb.trans (hb2.mono hzr)
        go_wp2_with fail
        go_ret
        exact ⟨ret_int HG.out.symm, hbw⟩
    · obtain rfl : k = m := by omega
      go_wp2_with fail
      go_ret
      exact ⟨ret_int (fstI_none hj.out).symm, hb⟩
set_option maxHeartbeats 800000 in
theorem ContainsFuncN_any (x y : Int) (rb cb : Nat) (p q : Nat → Int) (m lo2 hi2 : Nat) (u : Value) (w : World) (hu : Sl w lo2 hi2 2 u m (iiC p q)) (hhi2 : hi2 ≤ w.heap.size) (hm : m ≤ 1048576) (hr : w.cell? ⟨rb, 0, none⟩ = some (.int .i64 x)) (hc : w.cell? ⟨cb, 0, none⟩ = some (.int .i64 y)) (lr : rb < w.heap.size) (lc : cb < w.heap.size) (hx : 0 ≤ x) (hx' : x ≤ 1000) (hy : 0 ≤ y) (hy' : y ≤ 1000) (hp : ∀ t, t < m → (0 ≤ p t ∧ p t ≤ 1000) ∧ 0 ≤ q t ∧ q t ≤ 1000) :
    Calls Tryd.prog 57 #[u, .func (.func 94) #[] #[.pointer (some ⟨rb, 0, none⟩), .pointer (some ⟨cb, 0, none⟩)]] w fun e w' => e = .returned (.bool (decide (0 ≤ fstI (fun t => nearB x y (p t) (q t)) m))) ∧ Below w.heap.size w w' := by
  obtain ⟨A, cap, rfl, hcap, hA⟩ := id hu.open_
  go_enter Tryd.func57, Tryd.ntmps57
  go_wp2_with fail
  refine (IndexFuncN_any x y rb cb p q m lo2 hi2 _ w hu hhi2 hm hr hc lr lc hx hx' hy hy' hp).mono ?_
  rintro e w2 ⟨rfl, hb2⟩
  go_wp2_with fail
  go_ret
  exact ⟨ret_bool (by first | rfl | (simp [ge_iff_le])), hb2⟩
set_option maxHeartbeats 800000 in
theorem nopen1_any (F : Nat → ByteArray) (n lo hi : Nat) (v : Value) (a b : Int) (fb : Nat) (w : World) (hv : Sl w lo hi 1 v n (sC F)) (hhi : hi ≤ w.heap.size) (hg : flB F n = true) (hf : w.cell? ⟨fb, 0, none⟩ = some v) (lf : fb < w.heap.size) :
    Calls Tryd.prog 58 #[.agg #[.int .i64 a, .int .i64 b], .pointer (some ⟨fb, 0, none⟩)] w fun e w' => e = .returned (.bool (!opB F n a b)) ∧ Below w.heap.size w w' := by
  obtain ⟨A, cap, rfl, hcap, hA⟩ := id hv.open_
  go_enter Tryd.func58, Tryd.ntmps58
  go_wp2_with fail
  refine (isOpen_any F n a b lo hi _ _ (hv.below (B := w.heap.size) (by repeat (first | (with_reducible exact Below.refl _ _) | (with_reducible refine below_ov ?_ ?_) | (with_reducible refine Below.setCell ?_ ?_ _) | (with_reducible refine Below.alloc ?_ ?_ _) | (with_reducible refine Below.drew ?_) | (with_reducible refine below_drewN ?_ _) | (refine Below.trans ?_ (Below.mono ‹Below _ _ _› (by first | omega | (simp; done) | (simp; omega)))) | exact Below.refl _ _ | omega | (focus (simp; done)) | (focus (simp; omega)))) hhi) (by first | omega | (simp; done) | (simp; omega)) hg).mono ?_
  rintro e w1 ⟨rfl, hb1⟩
  have hz1 := hb1.size
  go_wp2_with fail
  go_ret
  exact ⟨rfl, (by repeat (first | (with_reducible exact Below.refl _ _) | (with_reducible refine below_ov ?_ ?_) | (with_reducible refine Below.setCell ?_ ?_ _) | (with_reducible refine Below.alloc ?_ ?_ _) | (with_reducible refine Below.drew ?_) | (with_reducible refine below_drewN ?_ _) | (refine Below.trans ?_ (Below.mono ‹Below _ _ _› (by first | omega | (simp; done) | (simp; omega)))) | exact Below.refl _ _ | omega | (focus (simp; done)) | (focus (simp; omega))))⟩
set_option maxRecDepth 100000 in
set_option maxHeartbeats 1600000 in
theorem IndexFuncO_any (F : Nat → ByteArray) (n lo hi : Nat) (v : Value) (fb : Nat) (p q : Nat → Int) (m lo2 hi2 : Nat) (u : Value) (w : World) (hu : Sl w lo2 hi2 2 u m (iiC p q)) (hhi2 : hi2 ≤ w.heap.size) (hm : m ≤ 1048576) (hv : Sl w lo hi 1 v n (sC F)) (hhi : hi ≤ w.heap.size) (hg : flB F n = true) (hf : w.cell? ⟨fb, 0, none⟩ = some v) (lf : fb < w.heap.size) :
    Calls Tryd.prog 93 #[u, .func (.func 58) #[] #[.pointer (some ⟨fb, 0, none⟩)]] w fun e w' => e = .returned (.int .i64 (fstI (fun t => !opB F n (p t) (q t)) m)) ∧ Below w.heap.size w w' := by
  obtain ⟨A, cap, rfl, hcap, hA⟩ := hu.open_
  clear hu
  go_enter Tryd.func93, Tryd.ntmps93
  go_wp2_with fail
  go_loopw [8] (fun i wr => ∃ k : Nat, k ≤ m ∧ i = .int .i64 k ∧ Hid (∀ j, j < k → (fun t => !opB F n (p t) (q t)) j = false) ∧ Below w.heap.size w wr) (fun i _ => m - (intOf i).toNat)
  case atStart => exact ⟨0, by omega, rfl, fun j hj => by omega, Below.refl _ _⟩
  case round =>
    obtain ⟨k, hk, rfl, hj, hb⟩ := hrel
    have hzr := hb.size
    by_cases hkn : k < m
    · obtain ⟨blk, off, rfl, h1, h2, h3⟩ := (hA.below hb (by omega)) (by omega)
      have c0 : wr.cell? ⟨blk, off + k * 2, none⟩ = some (.int .i64 (p k)) := by simpa [iiC] using h3 k 0 hkn (by omega)
      have c1 : wr.cell? ⟨blk, off + k * 2 + 1, none⟩ = some (.int .i64 (q k)) := by simpa [iiC] using h3 k 1 hkn (by omega)
      clear h3 hA
      obtain ⟨tst, htst⟩ : ∃ b, (fun t => !opB F n (p t) (q t)) k = b := ⟨_, rfl⟩
      have HT := hide htst
      have hcon := nopen1_any F n lo hi v (p k) (q k) fb wr (hv.below (B := w.heap.size) hb hhi) (by omega) hg ((hb.cell (p := ⟨fb, 0, none⟩) lf).trans hf) (by omega)
      rw [show (!opB F n (p k) (q k)) = tst from htst] at hcon
      clear htst
      cases tst with
      | false =>
        go_wp2_with fail
        refine hcon.mono ?_
        rintro e w2 ⟨rfl, hb2⟩
        have hz2 := hb2.size
        have hbw : Below w.heap.size w w2 := hb.trans (hb2.mono hzr)
        go_wp2_with fail
        go_roundw
        case rel => exact ⟨k + 1, by omega, by go_num, upto_snocF hj.out HT.out, hbw⟩
        case measure => simp [intOf]; omega
      | true =>
        have HG : Hid (fstI (fun t => !opB F n (p t) (q t)) m = k) := fstI_at hkn hj.out HT.out
        go_wp2_with fail
        refine hcon.mono ?_
        rintro e w2 ⟨rfl, hb2⟩
        have hbw : Below w.heap.size w w2 := hb.trans (hb2.mono hzr)
        go_wp2_with fail
        go_ret
        exact ⟨ret_int HG.out.symm, hbw⟩
    · obtain rfl : k = m := by omega
      go_wp2_with fail
      go_ret
      exact ⟨ret_int (fstI_none hj.out).symm, hb⟩
set_option maxHeartbeats 800000 in
theorem ContainsFuncO_any (F : Nat → ByteArray) (n lo hi : Nat) (v : Value) (fb : Nat) (p q : Nat → Int) (m lo2 hi2 : Nat) (u : Value) (w : World) (hu : Sl w lo2 hi2 2 u m (iiC p q)) (hhi2 : hi2 ≤ w.heap.size) (hm : m ≤ 1048576) (hv : Sl w lo hi 1 v n (sC F)) (hhi : hi ≤ w.heap.size) (hg : flB F n = true) (hf : w.cell? ⟨fb, 0, none⟩ = some v) (lf : fb < w.heap.size) :
    Calls Tryd.prog 57 #[u, .func (.func 58) #[] #[.pointer (some ⟨fb, 0, none⟩)]] w fun e w' => e = .returned (.bool (decide (0 ≤ fstI (fun t => !opB F n (p t) (q t)) m))) ∧ Below w.heap.size w w' := by
  obtain ⟨A, cap, rfl, hcap, hA⟩ := id hu.open_
  go_enter Tryd.func57, Tryd.ntmps57
  go_wp2_with fail
  refine (IndexFuncO_any F n lo hi v fb p q m lo2 hi2 _ w hu hhi2 hm hv hhi hg hf lf).mono ?_
  rintro e w2 ⟨rfl, hb2⟩
  go_wp2_with fail
  go_ret
  exact ⟨ret_bool (by first | rfl | (simp [ge_iff_le])), hb2⟩

end Go.Proofs.YtpckhpkbdanjoaaDoor

/-
  Walks: the reference puts a number into an increasing list.-/
namespace Go.Proofs.YtpckhpkbdanjoaaDoor
set_option linter.unusedVariables false
set_option linter.unusedSimpArgs false
open Go.RowKit

theorem infoIntP : (Tryd.prog.info? 3).map (fun i => (i.zero, i.size, i.bytes)) = some (some (.int .i64 0), 1, 8) := by kernel_rfl
/-- A row of the call's own that holds the places that pass a test. -/
def PRowI (w : World) (base : Nat) (v : Value) (P : Nat → Bool) (N : Nat) : Prop := w.ownsRow base 3 1 v (flt P N).length (fltV P N)
theorem fltV_or {p : Nat → Bool} {x n : Nat} (h : p x = false) (hx : x < n) : fltV (orP p x) n = fltV p x ++ [.int .i64 (x : Nat)] ++ (fltR p x n).map (fun (i : Nat) => Value.int .i64 (i : Int)) ∧ (flt (orP p x) n).length = (flt p x).length + 1 + (fltR p x n).length := by
  rw [fltV, flt_or h hx]
  constructor
  · simp [fltV]
  · simp; omega
theorem fltV_cell {P : Nat → Bool} {N j y : Nat} (h : (flt P N)[j]? = some y) : (fltV P N)[j]? = some (.int .i64 (y : Int)) := by
  rw [fltV, List.getElem?_map, h]
  rfl
theorem fltV_split (p : Nat → Bool) {x n : Nat} (h : x ≤ n) : fltV p n = fltV p x ++ (fltR p x n).map (fun (i : Nat) => Value.int .i64 (i : Int)) ∧ (flt p n).length = (flt p x).length + (fltR p x n).length := by
  rw [fltV, flt_split p x n h]
  exact ⟨by simp [fltV], by simp⟩
set_option maxRecDepth 100000 in
set_option maxHeartbeats 3200000 in
theorem l1Put_some (P : Nat → Bool) (N x base n g cap : Nat) (w : World) (hn : (flt P N).length = n) (hv : PRowI w base (.slice (some ⟨g, 0, none⟩) n cap) P N) (hx : x < N) (hN : N ≤ 1000) (hb0 : base ≤ w.heap.size) :
    Calls Tryd.prog 90 #[.slice (some ⟨g, 0, none⟩) n cap, .int .i64 x] w fun e w' => ∃ v', e = .returned v' ∧ PRowI w' base v' (orP P x) N ∧ Below w.heap.size w w' := by
  obtain ⟨ii, hii, iz0, iz1, iz2⟩ := info_parts infoIntP
  obtain ⟨K, hK⟩ : ∃ K, (flt P x).length = K := ⟨_, rfl⟩
  have hKn : K ≤ n := by rw [← hK, ← hn, flt_split P x N (by omega)]; simp
  have hn1000 : n ≤ 1000 := by have := flt_len P N; omega
  have hnc : n ≤ cap ∧ cap ≤ maxLen := by
    rcases hv.2 with ⟨h0, _⟩ | ⟨g', cap', cur, h0, _, _, h1, h2, _⟩
    · cases h0
    · cases h0; exact ⟨by rw [← hn]; exact h1, h2⟩
  obtain ⟨hcap, hcm⟩ := hnc
  unfold maxLen at hcm
  have hgl : g < w.heap.size := (hv.lt g rfl).2
  have HC : Hid (∀ (j : Nat) u, (fltV P N)[j]? = some u → w.cell? ⟨g, j, none⟩ = some u) := fun j u hu => by
    have := hv.cells rfl j u hu
    rwa [Addr.add_lit, Nat.zero_add] at this
  have HLo : Hid (∀ j, j < K → ∃ y : Nat, w.cell? ⟨g, j, none⟩ = some (.int .i64 y) ∧ y < x) := fun j hj => by
    obtain ⟨y, h1, h2⟩ := flt_below (p := P) (x := x) (n := N) (j := j) (by omega) (by omega)
    exact ⟨y, HC.out j _ (fltV_cell h1), h2⟩
  have HUp : Hid (K < n → ∃ y : Nat, w.cell? ⟨g, K, none⟩ = some (.int .i64 y) ∧ x ≤ y ∧ (y = x ↔ P x = true)) := fun h => by
    have h1 : K < (flt P N).length := by omega
    have h2 := List.getElem?_eq_getElem h1
    refine ⟨(flt P N)[K], HC.out K _ (fltV_cell h2), flt_above (x := x) (by omega) (by omega) h2, ?_⟩
    have h3 := flt_head (p := P) (x := x) (n := N) hx
    rw [hK, h2] at h3
    simpa using h3
  have HEnd : Hid (K = n → P x = false) := fun h => by
    cases hp : P x with
    | false => rfl
    | true =>
      have h3 := (flt_head (p := P) (x := x) (n := N) hx).2 hp
      rw [hK, List.getElem?_eq_none (by omega)] at h3
      cases h3
  have HN := hide hn
  have HV := hide hv
  have HK := hide hK
  clear hv hn hK
  go_enter Tryd.func90, Tryd.ntmps90
  go_wp2_with fail
  go_loopg [5] (K + 1) (fun gn i wr => ∃ k : Nat, k ≤ K ∧ K - k < gn ∧ i = .int .i64 k ∧ Below w.heap.size w wr)
  case atStart => exact ⟨0, by omega, by omega, rfl, Below.refl _ _⟩
  case round =>
    obtain ⟨k, hk, hgn, rfl, hb⟩ := hrel
    have hzr := hb.size
    have l0 : g < wr.heap.size := by omega
    by_cases hkK : k < K
    · obtain ⟨y, hy, hyx⟩ := HLo.out k hkK
      have c0 : wr.cell? ⟨g, k, none⟩ = some (.int .i64 (y : Nat)) := (hb.cell (p := ⟨g, k, none⟩) hgl).trans hy
      have d1 : decide ((k : Int) < (n : Int)) = true := decide_eq_true (by omega)
      have d1' : decide (k < n) = true := decide_eq_true (by omega)
      have d2 : decide ((y : Int) < (x : Int)) = true := decide_eq_true (by omega)
      have d2' : decide (y < x) = true := decide_eq_true (by omega)
      clear hy
      go_wp2_with fail
      go_roundg (K - k)
      case measure => omega
      case rel => exact ⟨k + 1, by omega, by omega, by go_num, hb⟩
    · obtain rfl : k = K := by omega
      cases hp : P x with
      | true =>
        have hkn : k < n := by
          rcases Nat.lt_or_ge k n with h | h
          · exact h
          · have := HEnd.out (by omega)
            rw [hp] at this
            cases this
        obtain ⟨y, hy, _, hyx⟩ := HUp.out hkn
        have e := hyx.2 hp
        rw [e] at hy
        have c0 : wr.cell? ⟨g, k, none⟩ = some (.int .i64 (x : Nat)) := (hb.cell (p := ⟨g, k, none⟩) hgl).trans hy
        have d1 : decide ((k : Int) < (n : Int)) = true := decide_eq_true (by omega)
        have d1' : decide (k < n) = true := decide_eq_true hkn
        have HE : Hid (PRowI wr base (.slice (some ⟨g, 0, none⟩) n cap) (orP P x) N) := by
          show PRowI _ _ _ _ _
          rw [PRowI, fltV, orP_same hp]
          exact row_below HV.out hb (Nat.le_refl _)
        clear hy hyx e
        go_wp2_with fail
        go_ret
        exact ⟨_, rfl, HE.out, hb⟩
      | false =>
        have HO := hide (fltV_or hp hx)
        have hrs := (fltV_split P (Nat.le_of_lt hx)).2
        by_cases hkn : k < n
        · obtain ⟨y, hy, hy1, hy2⟩ := HUp.out hkn
          have hyx : x < y := by
            rcases Nat.lt_or_ge x y with h | h
            · exact h
            · have := hy2.1 (by omega)
              rw [hp] at this
              cases this
          have c0 : wr.cell? ⟨g, k, none⟩ = some (.int .i64 (y : Nat)) := (hb.cell (p := ⟨g, k, none⟩) hgl).trans hy
          have d1 : decide ((k : Int) < (n : Int)) = true := decide_eq_true (by omega)
          have d1' : decide (k < n) = true := decide_eq_true hkn
          have d2 : decide ((y : Int) < (x : Int)) = false := decide_eq_false (by omega)
          have d2' : decide (y < x) = false := decide_eq_false (by omega)
          have d3 : ((y : Int) == (x : Int)) = false := by simp; omega
          have d3' : (y == x) = false := by simp; omega
          have hck : ¬ cap = k := by omega
          clear hy hy1 hy2
          have r1 : (wr.alloc (.cells #[] 3)).ownsRow wr.heap.size 3 1 (.slice (some ⟨wr.heap.size, 0, none⟩) 0 0) 0 [] := by simpa using World.ownsRow_made wr (base := wr.heap.size) (e := 3) (size := 1) #[] 0 (by simp) (Nat.zero_le _) rfl
          go_wp2_with (at_builtin; refine wpList_append_own _ rfl _ _ 48 rfl wr.heap.size 3 ii (.int .i64 0) 1 8 Tryd.underlying48 hii iz0 iz1 iz2 rfl (by decide) _ 0 [] rfl r1 ⟨g, 0, none⟩ k cap (fltV P x) rfl ?_ ?_ ?_ ?_ ?_ ?_ ?_)
          · simp [fltV, HK.out]
          · intro j u hu
            rw [Addr.add_lit, Nat.zero_add]
            refine (World.cell?_alloc_lt _ _ _ l0).trans ((hb.cell (p := ⟨g, j, none⟩) hgl).trans (HC.out j u ?_))
            rw [(fltV_split P (Nat.le_of_lt hx)).1, List.getElem?_append_left]
            · exact hu
            · exact (List.getElem?_eq_some_iff.1 hu).1
          · intro u hu
            obtain ⟨i, _, rfl⟩ := List.mem_map.1 hu
            rfl
          · unfold maxLen; omega
          · omega
          · simp
          intro v2 w2 hown2 hg2 _
          have hb2 : Below wr.heap.size wr w2 := ((Below.refl wr.heap.size wr).alloc (Nat.le_refl _) _).grown hg2 (by simp) (fun q hq => (r1.lt q hq).1)
          have hz2 := hb2.size
          obtain ⟨B2, c2, rfl⟩ := row_form hown2
          go_wp2_with (at_builtin; refine wpList_append_own _ rfl _ _ 48 rfl wr.heap.size 3 ii (.int .i64 0) 1 8 Tryd.underlying48 hii iz0 iz1 iz2 rfl (by decide) _ k (fltV P x) rfl (hown2.alloc _) ⟨w2.heap.size, 0, none⟩ 1 1 [.int .i64 (x : Nat)] rfl rfl ?_ ?_ ?_ ?_ ?_ ?_)
          · intro i u hu
            match i, hu with
            | 0, hu => simp at hu; subst hu; simp [go_sem, Addr.add]
          · intro u hu; simp at hu; subst hu; rfl
          · unfold maxLen; omega
          · omega
          · simp; omega
          intro v3 w3 hown3 hg3 _
          have hb3 : Below wr.heap.size wr w3 := (hb2.alloc hz2 _).grown hg3 (by simp; omega) (fun q hq => (hown2.lt q hq).1)
          have hz3 := hb3.size
          obtain ⟨B3, c3, rfl⟩ := row_form hown3
          have hsl : ∀ W, (Instr.slice 48 (.slice (some ⟨g, 0, none⟩) n cap) (some (.int .i64 (k : Nat))) none none).run Tryd.prog W = .ok (.slice (some ⟨g, k, none⟩) (n - k) (cap - k)) W := fun W => by
            simp [go_sem, Tryd.underlying48, hck]
            omega
          go_wp2_with (at_builtin; refine wpList_append_own _ rfl _ _ 48 rfl wr.heap.size 3 ii (.int .i64 0) 1 8 Tryd.underlying48 hii iz0 iz1 iz2 rfl (by decide) _ _ _ rfl hown3 ⟨g, k, none⟩ _ _ ((fltR P x N).map (fun (i : Nat) => Value.int .i64 (i : Int))) rfl ?_ ?_ ?_ ?_ ?_ ?_ ?_)
          · simp
            have := HN.out
            have := HK.out
            omega
          · intro j u hu
            rw [Addr.add_lit]
            refine (hb3.cell (p := ⟨g, k + j, none⟩) l0).trans ((hb.cell (p := ⟨g, k + j, none⟩) hgl).trans (HC.out (k + j) u ?_))
            rw [(fltV_split P (Nat.le_of_lt hx)).1, List.getElem?_append_right (by simp [fltV, HK.out])]
            have e : (fltV P x).length = k := by simp [fltV, HK.out]
            rw [e, Nat.add_sub_cancel_left]
            exact hu
          · intro u hu
            obtain ⟨i, _, rfl⟩ := List.mem_map.1 hu
            rfl
          · unfold maxLen; omega
          · omega
          · omega
          intro v4 w4 hown4 hg4 _
          have hb4 : Below wr.heap.size wr w4 := hb3.grown hg4 hz3 (fun q hq => (hown3.lt q hq).1)
          have HF : Hid (PRowI w4 base v4 (orP P x) N) := by
            show PRowI _ _ _ _ _
            have e : (flt (orP P x) N).length = k + 1 + (n - k) := by
              rw [HO.out.2, HK.out]
              have := HN.out
              have := HK.out
              omega
            rw [PRowI, e, HO.out.1]
            have h5 := hown4.mono (show base ≤ wr.heap.size by omega)
            simpa using h5
          have hbw : Below w.heap.size w w4 := hb.trans (hb4.mono hzr)
          clear hown2 hown3 hown4 hg2 hg3 hg4
          go_wp2_with fail
          go_ret
          exact ⟨_, rfl, HF.out, hbw⟩
        · have HKN : Hid (n = k) := by show _ = _; omega
          have d1 : decide ((k : Int) < (n : Int)) = false := decide_eq_false (by omega)
          have d1' : decide (k < n) = false := decide_eq_false hkn
          have hkn2 : k ≤ n := hKn
          by_cases hck : cap = k
          · obtain rfl : k = cap := hck.symm
            clear hck
            have r1 : (wr.alloc (.cells #[] 3)).ownsRow wr.heap.size 3 1 (.slice (some ⟨wr.heap.size, 0, none⟩) 0 0) 0 [] := by simpa using World.ownsRow_made wr (base := wr.heap.size) (e := 3) (size := 1) #[] 0 (by simp) (Nat.zero_le _) rfl
            go_wp2_with (at_builtin; refine wpList_append_own _ rfl _ _ 48 rfl wr.heap.size 3 ii (.int .i64 0) 1 8 Tryd.underlying48 hii iz0 iz1 iz2 rfl (by decide) _ 0 [] rfl r1 ⟨g, 0, none⟩ k k (fltV P x) rfl ?_ ?_ ?_ ?_ ?_ ?_ ?_)
            · simp [fltV, HK.out]
            · intro j u hu
              rw [Addr.add_lit, Nat.zero_add]
              refine (World.cell?_alloc_lt _ _ _ l0).trans ((hb.cell (p := ⟨g, j, none⟩) hgl).trans (HC.out j u ?_))
              rw [(fltV_split P (Nat.le_of_lt hx)).1, List.getElem?_append_left]
              · exact hu
              · exact (List.getElem?_eq_some_iff.1 hu).1
            · intro u hu
              obtain ⟨i, _, rfl⟩ := List.mem_map.1 hu
              rfl
            · unfold maxLen; omega
            · omega
            · simp
            intro v2 w2 hown2 hg2 _
            have hb2 : Below wr.heap.size wr w2 := ((Below.refl wr.heap.size wr).alloc (Nat.le_refl _) _).grown hg2 (by simp) (fun q hq => (r1.lt q hq).1)
            have hz2 := hb2.size
            obtain ⟨B2, c2, rfl⟩ := row_form hown2
            go_wp2_with (at_builtin; refine wpList_append_own _ rfl _ _ 48 rfl wr.heap.size 3 ii (.int .i64 0) 1 8 Tryd.underlying48 hii iz0 iz1 iz2 rfl (by decide) _ k (fltV P x) rfl (hown2.alloc _) ⟨w2.heap.size, 0, none⟩ 1 1 [.int .i64 (x : Nat)] rfl rfl ?_ ?_ ?_ ?_ ?_ ?_)
            · intro i u hu
              match i, hu with
              | 0, hu => simp at hu; subst hu; simp [go_sem, Addr.add]
            · intro u hu; simp at hu; subst hu; rfl
            · unfold maxLen; omega
            · omega
            · simp; omega
            intro v3 w3 hown3 hg3 _
            have hb3 : Below wr.heap.size wr w3 := (hb2.alloc hz2 _).grown hg3 (by simp; omega) (fun q hq => (hown2.lt q hq).1)
            have hz3 := hb3.size
            obtain ⟨B3, c3, rfl⟩ := row_form hown3
            have hsl : ∀ W, (Instr.slice 48 (.slice (some ⟨g, 0, none⟩) n k) (some (.int .i64 (k : Nat))) none none).run Tryd.prog W = .ok (.slice (some ⟨g, 0, none⟩) (n - k) 0) W := fun W => by
              simp [go_sem, Tryd.underlying48]
              omega
            go_wp2_with (at_builtin; refine wpList_append_own _ rfl _ _ 48 rfl wr.heap.size 3 ii (.int .i64 0) 1 8 Tryd.underlying48 hii iz0 iz1 iz2 rfl (by decide) _ _ _ rfl hown3 ⟨g, 0, none⟩ _ _ ((fltR P x N).map (fun (i : Nat) => Value.int .i64 (i : Int))) rfl ?_ ?_ ?_ ?_ ?_ ?_ ?_)
            · have := HN.out
              have := HK.out
              have := HKN.out
              have e : (fltR P x N).length = 0 := by omega
              simp [List.eq_nil_of_length_eq_zero e]
            · intro j u hu
              have h0 := (List.getElem?_eq_some_iff.1 hu).1
              simp at h0
              have := HN.out
              have := HK.out
              have := HKN.out
              omega
            · intro u hu
              obtain ⟨i, _, rfl⟩ := List.mem_map.1 hu
              rfl
            · unfold maxLen; omega
            · omega
            · omega
            intro v4 w4 hown4 hg4 _
            have hb4 : Below wr.heap.size wr w4 := hb3.grown hg4 hz3 (fun q hq => (hown3.lt q hq).1)
            have HF : Hid (PRowI w4 base v4 (orP P x) N) := by
              show PRowI _ _ _ _ _
              have e : (flt (orP P x) N).length = k + 1 + (n - k) := by
                rw [HO.out.2, HK.out]
                have := HN.out
                have := HK.out
                omega
              rw [PRowI, e, HO.out.1]
              have h5 := hown4.mono (show base ≤ wr.heap.size by omega)
              rw [show k + 1 + (n - k) = k + 1 by have := HKN.out; omega]
              simpa using h5
            have hbw : Below w.heap.size w w4 := hb.trans (hb4.mono hzr)
            clear hown2 hown3 hown4 hg2 hg3 hg4
            go_wp2_with fail
            go_ret
            exact ⟨_, rfl, HF.out, hbw⟩
          · skip
            have r1 : (wr.alloc (.cells #[] 3)).ownsRow wr.heap.size 3 1 (.slice (some ⟨wr.heap.size, 0, none⟩) 0 0) 0 [] := by simpa using World.ownsRow_made wr (base := wr.heap.size) (e := 3) (size := 1) #[] 0 (by simp) (Nat.zero_le _) rfl
            go_wp2_with (at_builtin; refine wpList_append_own _ rfl _ _ 48 rfl wr.heap.size 3 ii (.int .i64 0) 1 8 Tryd.underlying48 hii iz0 iz1 iz2 rfl (by decide) _ 0 [] rfl r1 ⟨g, 0, none⟩ k cap (fltV P x) rfl ?_ ?_ ?_ ?_ ?_ ?_ ?_)
            · simp [fltV, HK.out]
            · intro j u hu
              rw [Addr.add_lit, Nat.zero_add]
              refine (World.cell?_alloc_lt _ _ _ l0).trans ((hb.cell (p := ⟨g, j, none⟩) hgl).trans (HC.out j u ?_))
              rw [(fltV_split P (Nat.le_of_lt hx)).1, List.getElem?_append_left]
              · exact hu
              · exact (List.getElem?_eq_some_iff.1 hu).1
            · intro u hu
              obtain ⟨i, _, rfl⟩ := List.mem_map.1 hu
              rfl
            · unfold maxLen; omega
            · omega
            · simp
            intro v2 w2 hown2 hg2 _
            have hb2 : Below wr.heap.size wr w2 := ((Below.refl wr.heap.size wr).alloc (Nat.le_refl _) _).grown hg2 (by simp) (fun q hq => (r1.lt q hq).1)
            have hz2 := hb2.size
            obtain ⟨B2, c2, rfl⟩ := row_form hown2
            go_wp2_with (at_builtin; refine wpList_append_own _ rfl _ _ 48 rfl wr.heap.size 3 ii (.int .i64 0) 1 8 Tryd.underlying48 hii iz0 iz1 iz2 rfl (by decide) _ k (fltV P x) rfl (hown2.alloc _) ⟨w2.heap.size, 0, none⟩ 1 1 [.int .i64 (x : Nat)] rfl rfl ?_ ?_ ?_ ?_ ?_ ?_)
            · intro i u hu
              match i, hu with
              | 0, hu => simp at hu; subst hu; simp [go_sem, Addr.add]
            · intro u hu; simp at hu; subst hu; rfl
            · unfold maxLen; omega
            · omega
            · simp; omega
            intro v3 w3 hown3 hg3 _
            have hb3 : Below wr.heap.size wr w3 := (hb2.alloc hz2 _).grown hg3 (by simp; omega) (fun q hq => (hown2.lt q hq).1)
            have hz3 := hb3.size
            obtain ⟨B3, c3, rfl⟩ := row_form hown3
            have hsl : ∀ W, (Instr.slice 48 (.slice (some ⟨g, 0, none⟩) n cap) (some (.int .i64 (k : Nat))) none none).run Tryd.prog W = .ok (.slice (some ⟨g, k, none⟩) (n - k) (cap - k)) W := fun W => by
              simp [go_sem, Tryd.underlying48, hck]
              omega
            go_wp2_with (at_builtin; refine wpList_append_own _ rfl _ _ 48 rfl wr.heap.size 3 ii (.int .i64 0) 1 8 Tryd.underlying48 hii iz0 iz1 iz2 rfl (by decide) _ _ _ rfl hown3 ⟨g, k, none⟩ _ _ ((fltR P x N).map (fun (i : Nat) => Value.int .i64 (i : Int))) rfl ?_ ?_ ?_ ?_ ?_ ?_ ?_)
            · simp
              have := HN.out
              have := HK.out
              omega
            · intro j u hu
              rw [Addr.add_lit]
              refine (hb3.cell (p := ⟨g, k + j, none⟩) l0).trans ((hb.cell (p := ⟨g, k + j, none⟩) hgl).trans (HC.out (k + j) u ?_))
              rw [(fltV_split P (Nat.le_of_lt hx)).1, List.getElem?_append_right (by simp [fltV, HK.out])]
              have e : (fltV P x).length = k := by simp [fltV, HK.out]
              rw [e, Nat.add_sub_cancel_left]
              exact hu
            · intro u hu
              obtain ⟨i, _, rfl⟩ := List.mem_map.1 hu
              rfl
            · unfold maxLen; omega
            · omega
            · omega
            intro v4 w4 hown4 hg4 _
            have hb4 : Below wr.heap.size wr w4 := hb3.grown hg4 hz3 (fun q hq => (hown3.lt q hq).1)
            have HF : Hid (PRowI w4 base v4 (orP P x) N) := by
              show PRowI _ _ _ _ _
              have e : (flt (orP P x) N).length = k + 1 + (n - k) := by
                rw [HO.out.2, HK.out]
                have := HN.out
                have := HK.out
                omega
              rw [PRowI, e, HO.out.1]
              have h5 := hown4.mono (show base ≤ wr.heap.size by omega)
              simpa using h5
            have hbw : Below w.heap.size w w4 := hb.trans (hb4.mono hzr)
            clear hown2 hown3 hown4 hg2 hg3 hg4
            go_wp2_with fail
            go_ret
            exact ⟨_, rfl, HF.out, hbw⟩

end Go.Proofs.YtpckhpkbdanjoaaDoor

/-
  An append of one row of the call's own onto another.-/
namespace Go.Proofs.YtpckhpkbdanjoaaDoor
set_option linter.unusedVariables false
set_option linter.unusedSimpArgs false
open Go.RowKit

theorem run_append_rows {P : Program} (w : World) (base base2 : Nat) (t ty e : TypeId) (i : TypeInfo) (z : Value) (size bytes : Nat) (ht : P.underlying t = some (.slice e)) (hi : P.info? e = some i) (hz : i.zero = some z)
    (hsize : i.size = size) (hby : i.bytes = bytes) (hzs : z.cells.size = size) (hsz : 0 < size)
    (v u : Value) (n m : Nat) (xs ys : List Value) (hown : w.ownsRow base e size v n xs) (hown2 : w.ownsRow base2 e size u m ys) (h1 : ∀ u ∈ ys, u.oneCell' = true)
    (h63 : n + m ≤ maxLen) (hbytes : (n + m) * bytes ≤ 140737488355328) (hbase : base ≤ w.heap.size) :
    ∃ v' w', (Builtin.append_ #[t, t] ty #[v, u]).run P w = .ok v' w' ∧ w'.ownsRow base e size v' (n + m) (xs ++ ys) ∧ w.grownBy w' v.ownBlock := by
  rcases hown2.2 with ⟨rfl, rfl⟩ | ⟨g, cap, cur, rfl, hbg, hg, hnc, hcm, hcs, htake⟩
  · have hy : ys = [] := List.eq_nil_of_length_eq_zero (by simpa using hown2.1)
    subst hy
    refine ⟨v, w, ?_, by simpa using hown, ⟨rfl, rfl, rfl, Nat.le_refl _, fun _ _ _ => rfl⟩⟩
    rcases hown.2 with ⟨rfl, rfl⟩ | ⟨g, cap, cur, rfl, hbg, hg, hnc, hcm, hcs, htake⟩
    · simp [Builtin.append_, run_underlying ht, sizeOf, typeInfo, hi, Builtin.lenOf, Builtin.firstCells, loadCells, loadCellsFrom]
    · simp [Builtin.append_, run_underlying ht, sizeOf, typeInfo, hi, Builtin.lenOf, Builtin.firstCells, loadCells, loadCellsFrom, storeCells, hnc]
  · obtain ⟨v', w', r1, r2, r3, _⟩ := run_append_own (P := P) w base t ty e i z size bytes ht hi hz hsize hby hzs hsz v n xs hown ⟨g, 0, none⟩ m cap ys hown2.1 (hown2.cells rfl) h1 h63 hbytes hbase
    exact ⟨v', w', r1, r2, r3⟩

end Go.Proofs.YtpckhpkbdanjoaaDoor

/-
  Walks: the reference puts a number into an increasing list, the list that is nil.-/
namespace Go.Proofs.YtpckhpkbdanjoaaDoor
set_option linter.unusedVariables false
set_option linter.unusedSimpArgs false
open Go.RowKit

theorem wpList_append_rows {P : Program} {ops : Array Oper} {rest : List Oper} {o : Oper} {a : Act} {w : World} {Q : Exit → Act → World → Prop} (hgd : o.guard = none) (s x : Operand) (t : TypeId)
    (ho : o.op = .call { callee := .builtin .append, args := #[s, x], argTypes := #[t, t] })
    (base base2 : Nat) (e : TypeId) (i : TypeInfo) (z : Value) (size bytes : Nat) (ht : P.underlying t = some (.slice e)) (hi : P.info? e = some i) (hz : i.zero = some z)
    (hsize : i.size = size) (hby : i.bytes = bytes) (hzs : z.cells.size = size) (hsz : 0 < size)
    (v u : Value) (n m : Nat) (xs ys : List Value) (hs : a.eval s = v) (hx : a.eval x = u) (hown : w.ownsRow base e size v n xs) (hown2 : w.ownsRow base2 e size u m ys) (h1 : ∀ u ∈ ys, u.oneCell' = true)
    (h63 : n + m ≤ maxLen) (hbytes : (n + m) * bytes ≤ 140737488355328) (hbase : base ≤ w.heap.size)
    (h : ∀ v' w', w'.ownsRow base e size v' (n + m) (xs ++ ys) → w.grownBy w' v.ownBlock → wpList P ops Q rest (a.put o.dst v') w') :
    wpList P ops Q (o :: rest) a w := by
  refine wpList_plain hgd fun K hK => ?_
  obtain ⟨v', w', hr, h2, h3⟩ := run_append_rows (P := P) w base base2 t o.type e i z size bytes ht hi hz hsize hby hzs hsz v u n m xs ys hown hown2 h1 h63 hbytes hbase
  unfold Oper.wp execOp
  simp only [ho, resolve, invoke, builtin, Sem.run_bind, Sem.run_pure, Result.andThen_ok, List.map_toArray, List.map_cons, List.map_nil, hs, hx, hr]
  exact hK _ _ (h v' w' h2 h3)

set_option maxRecDepth 100000 in
set_option maxHeartbeats 3200000 in
theorem l1Put_nil (P : Nat → Bool) (N x base : Nat) (w : World) (hn : (flt P N).length = 0) (hx : x < N) (hN : N ≤ 1000) (hb0 : base ≤ w.heap.size) :
    Calls Tryd.prog 90 #[.slice none 0 0, .int .i64 x] w fun e w' => ∃ v', e = .returned v' ∧ PRowI w' base v' (orP P x) N ∧ Below w.heap.size w w' := by
  obtain ⟨ii, hii, iz0, iz1, iz2⟩ := info_parts infoIntP
  have hp : P x = false := by
    cases h : P x with
    | false => rfl
    | true =>
      have h3 := (flt_head (p := P) (x := x) (n := N) hx).2 h
      rw [List.getElem?_eq_none (by omega)] at h3
      cases h3
  have HO := hide (fltV_or hp hx)
  have hrs := (fltV_split P (Nat.le_of_lt hx)).2
  have hl1 : (flt P x).length = 0 := by omega
  have hl2 : (fltR P x N).length = 0 := by omega
  have HE : Hid (fltV (orP P x) N = [.int .i64 (x : Nat)] ∧ (flt (orP P x) N).length = 1) := by
    refine ⟨?_, ?_⟩
    · rw [HO.out.1, fltV, List.eq_nil_of_length_eq_zero hl1, List.eq_nil_of_length_eq_zero hl2]; rfl
    · rw [HO.out.2, hl1, hl2]
  go_enter Tryd.func90, Tryd.ntmps90
  go_wp2_with fail
  go_loopg [5] 1 (fun gn i wr => 0 < gn ∧ i = .int .i64 0 ∧ Below w.heap.size w wr)
  case atStart => exact ⟨by omega, rfl, Below.refl _ _⟩
  case round =>
    obtain ⟨hgn, rfl, hb⟩ := hrel
    have hzr := hb.size
    have r1 : (wr.alloc (.cells #[] 3)).ownsRow wr.heap.size 3 1 (.slice (some ⟨wr.heap.size, 0, none⟩) 0 0) 0 [] := by simpa using World.ownsRow_made wr (base := wr.heap.size) (e := 3) (size := 1) #[] 0 (by simp) (Nat.zero_le _) rfl
    go_wp2_with (at_builtin; refine wpList_append_rows rfl _ _ 48 rfl wr.heap.size wr.heap.size 3 ii (.int .i64 0) 1 8 Tryd.underlying48 hii iz0 iz1 iz2 rfl (by decide) _ _ 0 0 [] [] rfl rfl r1 (World.ownsRow_nil _ _ _ _) ?_ ?_ ?_ ?_ ?_)
    · simp
    · unfold maxLen; omega
    · omega
    · simp
    intro v2 w2 hown2 hg2
    have hb2 : Below wr.heap.size wr w2 := ((Below.refl wr.heap.size wr).alloc (Nat.le_refl _) _).grown hg2 (by simp) (fun q hq => (r1.lt q hq).1)
    have hz2 := hb2.size
    obtain ⟨B2, c2, rfl⟩ := row_form hown2
    go_wp2_with (at_builtin; refine wpList_append_own _ rfl _ _ 48 rfl wr.heap.size 3 ii (.int .i64 0) 1 8 Tryd.underlying48 hii iz0 iz1 iz2 rfl (by decide) _ _ [] rfl (hown2.alloc _) ⟨w2.heap.size, 0, none⟩ 1 1 [.int .i64 (x : Nat)] rfl rfl ?_ ?_ ?_ ?_ ?_ ?_)
    · intro i u hu
      match i, hu with
      | 0, hu => simp at hu; subst hu; simp [go_sem, Addr.add]
    · intro u hu; simp at hu; subst hu; rfl
    · unfold maxLen; omega
    · omega
    · simp; omega
    intro v3 w3 hown3 hg3 _
    have hb3 : Below wr.heap.size wr w3 := (hb2.alloc hz2 _).grown hg3 (by simp; omega) (fun q hq => (hown2.lt q hq).1)
    have hz3 := hb3.size
    obtain ⟨B3, c3, rfl⟩ := row_form hown3
    have hsl : ∀ W, (Instr.slice 48 (.slice none 0 0) (some (.int .i64 0)) none none).run Tryd.prog W = .ok (.slice none 0 0) W := fun W => by
      simp [go_sem, Tryd.underlying48]
    go_wp2_with (at_builtin; refine wpList_append_rows rfl _ _ 48 rfl wr.heap.size wr.heap.size 3 ii (.int .i64 0) 1 8 Tryd.underlying48 hii iz0 iz1 iz2 rfl (by decide) _ _ _ 0 _ [] rfl rfl hown3 (World.ownsRow_nil _ _ _ _) ?_ ?_ ?_ ?_ ?_)
    · simp
    · unfold maxLen; omega
    · omega
    · omega
    intro v4 w4 hown4 hg4
    have hb4 : Below wr.heap.size wr w4 := hb3.grown hg4 hz3 (fun q hq => (hown3.lt q hq).1)
    have HF : Hid (PRowI w4 base v4 (orP P x) N) := by
      show PRowI _ _ _ _ _
      rw [PRowI, HE.out.1, HE.out.2]
      have h5 := hown4.mono (show base ≤ wr.heap.size by omega)
      simpa using h5
    have hbw : Below w.heap.size w w4 := hb.trans (hb4.mono hzr)
    clear hown2 hown3 hown4 hg2 hg3 hg4
    go_wp2_with fail
    go_ret
    exact ⟨_, rfl, HF.out, hbw⟩
theorem l1Put_any (P : Nat → Bool) (N x base : Nat) (v : Value) (w : World) (hv : PRowI w base v P N) (hx : x < N) (hN : N ≤ 1000) (hb0 : base ≤ w.heap.size) :
    Calls Tryd.prog 90 #[v, .int .i64 x] w fun e w' => ∃ v', e = .returned v' ∧ PRowI w' base v' (orP P x) N ∧ Below w.heap.size w w' := by
  rcases hv.2 with ⟨h0, h1⟩ | ⟨g, cap, cur, h0, _⟩
  · subst h0
    exact l1Put_nil P N x base w h1 hx hN hb0
  · subst h0
    exact l1Put_some P N x base _ g cap w rfl hv hx hN hb0

end Go.Proofs.YtpckhpkbdanjoaaDoor

/-
  Plain words: steps from a cell to all cells, as both texts reckon them: one cell behind the other, its four neighbours in order. No program in sight.-/
namespace Go.Proofs.YtpckhpkbdanjoaaDoor
set_option linter.unusedVariables false
set_option linter.unusedSimpArgs false

def updI (o : Nat → Int) (i : Nat) (x : Int) : Nat → Int := fun j => if j = i then x else o j
def updP (q : Nat → Int × Int) (i : Nat) (x : Int × Int) : Nat → Int × Int := fun j => if j = i then x else q j
/-- The steps so far; the cells in the order in which they are reached, and how many. -/
structure Bs where
  o : Nat → Int
  q : Nat → Int × Int
  m : Nat
/-- The neighbour of p in the direction d is reached first from p. -/
def pshB (F : Nat → ByteArray) (n : Nat) (p : Int × Int) (d : Nat) (s : Bs) : Bool := opP F n (stp p d) && decide (s.o (ixF F (stp p d)) < 0)
def psh (F : Nat → ByteArray) (n : Nat) (p : Int × Int) (d : Nat) (s : Bs) : Bs :=
  if pshB F n p d s = true then ⟨updI s.o (ixF F (stp p d)) (s.o (ixF F p) + 1), updP s.q s.m (stp p d), s.m + 1⟩ else s
def pshN (F : Nat → ByteArray) (n : Nat) (p : Int × Int) : Nat → Bs → Bs
  | 0, s => s
  | d + 1, s => psh F n p d (pshN F n p d s)
/-- So many rounds at most: cell k and those behind it. -/
def bfs (F : Nat → ByteArray) (n : Nat) : Nat → Nat → Bs → Bs
  | 0, _, s => s
  | f + 1, k, s => if k < s.m then bfs F n f (k + 1) (pshN F n (s.q k) 4 s) else s
def bs0 (F : Nat → ByteArray) (a : Int × Int) : Bs := ⟨updI (fun _ => -1) (ixF F a) 0, fun _ => a, 1⟩
def bsF (F : Nat → ByteArray) (n : Nat) (a : Int × Int) : Bs := bfs F n (n * (F 0).size) 0 (bs0 F a)
/-- The steps from a cell, by the number of the other one. -/
def stF (F : Nat → ByteArray) (n : Nat) (a : Int × Int) : Nat → Int := (bsF F n a).o
/-- What holds all along. -/
structure BInv (F : Nat → ByteArray) (n : Nat) (a : Int × Int) (s : Bs) : Prop where
  hq : ∀ i, i < s.m → opP F n (s.q i) = true ∧ 0 ≤ s.o (ixF F (s.q i))
  hb : ∀ j, -1 ≤ s.o j ∧ s.o j < s.m
  hc : s.m + cntF (fun j => decide (s.o j < 0)) (n * (F 0).size) = n * (F 0).size
  ha : opP F n a = true
  h0 : s.o (ixF F a) = 0
  hp : ∀ j, 0 ≤ s.o j → ∃ p, opP F n p = true ∧ ixF F p = j ∧ (p = a ∨ 1 ≤ s.o j ∧ ∃ d, d < 4 ∧ opP F n (stp p d) = true ∧ s.o (ixF F (stp p d)) + 1 = s.o j)
/-- Back again. -/
def opd (d : Nat) : Nat := if d = 0 then 2 else if d = 1 then 3 else if d = 2 then 0 else 1
theorem opd_lt (d : Nat) : opd d < 4 := by unfold opd; split <;> (try split) <;> (try split) <;> omega
theorem stp_opd {p : Int × Int} {d : Nat} (hd : d < 4) : stp (stp p d) (opd d) = p := by
  have : d = 0 ∨ d = 1 ∨ d = 2 ∨ d = 3 := by omega
  rcases this with rfl | rfl | rfl | rfl <;> (apply Prod.ext <;> simp [stp, opd, dR, dC] <;> omega)
theorem cnt_upd {o : Nat → Int} {i N : Nat} {x : Int} (hi : i < N) (h : o i < 0) (hx : 0 ≤ x) : cntF (fun j => decide (updI o i x j < 0)) N + 1 = cntF (fun j => decide (o j < 0)) N := by
  induction N with
  | zero => omega
  | succ N ih =>
    simp only [cntF]
    rcases Nat.lt_or_ge i N with h1 | h1
    · have h2 := ih h1
      have h3 : updI o i x N = o N := by simp [updI]; omega
      simp only [h3]
      omega
    · obtain rfl : i = N := by omega
      have h2 : cntF (fun j => decide (updI o i x j < 0)) i = cntF (fun j => decide (o j < 0)) i := by
        clear ih hi
        have : ∀ M, M ≤ i → cntF (fun j => decide (updI o i x j < 0)) M = cntF (fun j => decide (o j < 0)) M := by
          intro M
          induction M with
          | zero => intro _; rfl
          | succ M ih =>
            intro hM
            simp only [cntF]
            rw [ih (by omega)]
            have h3 : updI o i x M = o M := by simp [updI]; omega
            simp only [h3]
        exact this i (Nat.le_refl _)
      rw [h2]
      have h3 : updI o i x i = x := by simp [updI]
      simp only [h3]
      have h4 : decide (x < 0) = false := decide_eq_false (by omega)
      have h5 : decide (o i < 0) = true := decide_eq_true h
      simp [h4, h5]
section
variable {F : Nat → ByteArray} {n : Nat} {a p : Int × Int} {d : Nat} {s : Bs}
theorem BInv.psh (h : BInv F n a s) (hp : opP F n p = true) (h0 : 0 ≤ s.o (ixF F p)) (hd : d < 4) : BInv F n a (psh F n p d s) ∧ 0 ≤ (Go.Proofs.YtpckhpkbdanjoaaDoor.psh F n p d s).o (ixF F p) ∧ s.m ≤ (Go.Proofs.YtpckhpkbdanjoaaDoor.psh F n p d s).m ∧ ∀ i, i < s.m → (Go.Proofs.YtpckhpkbdanjoaaDoor.psh F n p d s).q i = s.q i := by
  unfold Go.Proofs.YtpckhpkbdanjoaaDoor.psh
  split
  · rename_i hc
    simp only [pshB, Bool.and_eq_true, decide_eq_true_eq] at hc
    obtain ⟨ho, hneg⟩ := hc
    have hlt := ix_lt ho
    have hpb := h.hb (ixF F p)
    have keep : ∀ j, 0 ≤ s.o j → updI s.o (ixF F (stp p d)) (s.o (ixF F p) + 1) j = s.o j := fun j hj => by
      simp only [updI]
      split
      · rename_i e
        subst e
        omega
      · rfl
    refine ⟨⟨?_, ?_, ?_, h.ha, ?_, ?_⟩, ?_, Nat.le_succ _, ?_⟩
    · intro i hi
      simp only [updP]
      split
      · refine ⟨ho, ?_⟩
        simp [updI]
        omega
      · have h1 := h.hq i (by simp at hi; omega)
        exact ⟨h1.1, by rw [keep _ h1.2]; exact h1.2⟩
    · intro j
      have h1 := h.hb j
      simp only [updI]
      split <;> omega
    · have h1 := h.hc
      have h2 := cnt_upd (o := s.o) (x := s.o (ixF F p) + 1) hlt hneg (by omega)
      simp only
      omega
    · show updI _ _ _ _ = 0
      rw [keep _ (by rw [h.h0]; omega)]
      exact h.h0
    · intro j hj
      simp only at hj ⊢
      by_cases e : j = ixF F (stp p d)
      · refine ⟨stp p d, ho, e.symm, .inr ⟨?_, opd d, opd_lt d, ?_, ?_⟩⟩
        · simp [updI, e]; omega
        · rw [stp_opd hd]; exact hp
        · rw [stp_opd hd, keep _ h0]
          simp [updI, e]
      · have ej : updI s.o (ixF F (stp p d)) (s.o (ixF F p) + 1) j = s.o j := by simp [updI, e]
        rw [ej] at hj ⊢
        obtain ⟨x, h1, h2, h3⟩ := h.hp j hj
        refine ⟨x, h1, h2, h3.imp id fun ⟨h4, d', h5, h6, h7⟩ => ⟨h4, d', h5, h6, ?_⟩⟩
        rw [keep _ (by omega)]
        exact h7
    · show 0 ≤ updI _ _ _ _
      rw [keep _ h0]
      exact h0
    · intro i hi
      simp only [updP]
      rw [if_neg (by omega)]
  · exact ⟨h, h0, Nat.le_refl _, fun _ _ => rfl⟩
theorem BInv.pshN (h : BInv F n a s) (hp : opP F n p = true) (h0 : 0 ≤ s.o (ixF F p)) : ∀ {d : Nat}, d ≤ 4 → BInv F n a (pshN F n p d s) ∧ 0 ≤ (Go.Proofs.YtpckhpkbdanjoaaDoor.pshN F n p d s).o (ixF F p) ∧ s.m ≤ (Go.Proofs.YtpckhpkbdanjoaaDoor.pshN F n p d s).m ∧ ∀ i, i < s.m → (Go.Proofs.YtpckhpkbdanjoaaDoor.pshN F n p d s).q i = s.q i
  | 0, _ => ⟨h, h0, Nat.le_refl _, fun _ _ => rfl⟩
  | d + 1, hd => by
    obtain ⟨h1, h2, h3, h5⟩ := h.pshN hp h0 (d := d) (by omega)
    obtain ⟨h4, h6, h7, h8⟩ := h1.psh hp h2 (d := d) (by omega)
    exact ⟨h4, h6, Nat.le_trans h3 h7, fun i hi => (h8 i (by omega)).trans (h5 i hi)⟩
theorem BInv.m_le (h : BInv F n a s) : s.m ≤ n * (F 0).size := by have := h.hc; omega
theorem BInv.m_lt (h : BInv F n a s) {j : Nat} (hj : j < n * (F 0).size) (hn : s.o j < 0) : s.m < n * (F 0).size := by
  have h1 := h.hc
  have : 0 < cntF (fun j => decide (s.o j < 0)) (n * (F 0).size) := by
    have h2 : cntF (fun j => decide (s.o j < 0)) (j + 1) ≤ cntF (fun j => decide (s.o j < 0)) (n * (F 0).size) := cntF_mono _ hj
    have h3 : decide (s.o j < 0) = true := decide_eq_true hn
    simp only [cntF, h3, if_true] at h2
    omega
  omega
theorem BInv.start (ha : opP F n a = true) : BInv F n a (bs0 F a) := by
  have hlt := ix_lt ha
  have hcn : ∀ M, cntF (fun j => decide ((-1 : Int) < 0)) M = M := by
    intro M
    induction M with
    | zero => rfl
    | succ M ih => simp only [cntF] at *; rw [ih]; simp
  refine ⟨?_, ?_, ?_, ha, ?_, ?_⟩
  · intro i _
    exact ⟨ha, by simp [bs0, updI]⟩
  · intro j
    simp only [bs0, updI]
    split <;> simp
  · have h1 := (cnt_upd (o := fun _ => -1) (x := 0) hlt (by simp) (Int.le_refl 0)).trans (hcn (n * (F 0).size))
    exact (Nat.add_comm _ _).trans h1
  · simp [bs0, updI]
  · intro j hj
    simp only [bs0, updI] at hj
    split at hj
    · rename_i e
      exact ⟨a, ha, e.symm, .inl rfl⟩
    · omega
/-- Behind the last cell nothing more happens. -/
theorem bfs_done {f k : Nat} (h : ¬ k < s.m) : bfs F n f k s = s := by
  cases f with
  | zero => rfl
  | succ f => rw [bfs, if_neg h]
theorem bfs_next {f k : Nat} (h : k < s.m) : bfs F n (f + 1) k s = bfs F n f (k + 1) (pshN F n (s.q k) 4 s) := by rw [bfs, if_pos h]
theorem bfs_inv : ∀ (f k : Nat) (s : Bs), BInv F n a s → n * (F 0).size ≤ f + k → BInv F n a (bfs F n f k s) ∧ ∀ j, 0 ≤ s.o j → (bfs F n f k s).o j = s.o j
  | 0, k, s, h, _ => ⟨h, fun _ _ => rfl⟩
  | f + 1, k, s, h, hf => by
    by_cases hk : k < s.m
    · rw [bfs_next hk]
      obtain ⟨h1, h2⟩ := h.hq k hk
      obtain ⟨h3, _⟩ := h.pshN h1 h2 (Nat.le_refl 4)
      obtain ⟨h5, h6⟩ := bfs_inv f (k + 1) _ h3 (by omega)
      have hkeep : ∀ d, d ≤ 4 → ∀ j, 0 ≤ s.o j → (pshN F n (s.q k) d s).o j = s.o j := by
        intro d
        induction d with
        | zero => intro _ j _; rfl
        | succ d ih =>
          intro hd j hj
          have e1 := ih (by omega) j hj
          show (psh F n (s.q k) d (pshN F n (s.q k) d s)).o j = s.o j
          unfold psh
          split
          · rename_i hc
            simp only [pshB, Bool.and_eq_true, decide_eq_true_eq] at hc
            simp only [updI]
            split
            · rename_i e
              rw [← e, e1] at hc
              omega
            · exact e1
          · exact e1
      exact ⟨h5, fun j hj => by rw [h6 j (by rw [hkeep 4 (Nat.le_refl _) j hj]; exact hj)]; exact hkeep 4 (Nat.le_refl _) j hj⟩
    · rw [bfs_done hk]
      exact ⟨h, fun _ _ => rfl⟩
theorem stF_inv (ha : opP F n a = true) : BInv F n a (bsF F n a) := (bfs_inv _ _ _ (BInv.start ha) (by omega)).1
/-- A cell that is reached is the first one, or has a neighbour one step nearer. -/
theorem stF_near (ha : opP F n a = true) (hp : opP F n p = true) (h : 0 ≤ stF F n a (ixF F p)) : p = a ∨ 1 ≤ stF F n a (ixF F p) ∧ ∃ d, d < 4 ∧ opP F n (stp p d) = true ∧ stF F n a (ixF F (stp p d)) + 1 = stF F n a (ixF F p) := by
  obtain ⟨x, h1, h2, h3⟩ := (stF_inv ha).hp _ h
  obtain rfl := ix_inj h1 hp h2
  exact h3
theorem stF_zero (ha : opP F n a = true) : stF F n a (ixF F a) = 0 := (stF_inv ha).h0
theorem stF_bd (ha : opP F n a = true) (j : Nat) : -1 ≤ stF F n a j ∧ stF F n a j < (n * (F 0).size : Nat) := by
  have h1 := (stF_inv ha).hb j
  have h2 := (stF_inv ha).m_le
  exact ⟨h1.1, by show (bsF F n a).o j < _; omega⟩
theorem stF_wall (ha : opP F n a = true) {j : Nat} (h : 0 ≤ stF F n a j) : ∃ p, opP F n p = true ∧ ixF F p = j := by
  obtain ⟨x, h1, h2, _⟩ := (stF_inv ha).hp _ h
  exact ⟨x, h1, h2⟩
end

end Go.Proofs.YtpckhpkbdanjoaaDoor

/-
  Plain words: the way back: from a cell to the nearest neighbours of the other one, east before north before south before west. No program in sight.-/
namespace Go.Proofs.YtpckhpkbdanjoaaDoor
set_option linter.unusedVariables false
set_option linter.unusedSimpArgs false

/-- The order in which directions are tried. -/
def ordD (j : Nat) : Nat := if j = 0 then 1 else if j = 1 then 0 else j
theorem ordD_lt {j : Nat} (h : j < 4) : ordD j < 4 := by unfold ordD; split <;> (try split) <;> omega
theorem ordD_ordD (j : Nat) : ordD (ordD j) = j := by unfold ordD; split <;> (try split) <;> (try split) <;> omega
/-- The number of steps left from p. -/
def lfF (F : Nat → ByteArray) (n : Nat) (b p : Int × Int) : Int := stF F n b (ixF F p)
/-- The j-th direction leads one step nearer. -/
def wbT (F : Nat → ByteArray) (n : Nat) (b p : Int × Int) (j : Nat) : Bool := opP F n (stp p (ordD j)) && decide (lfF F n b (stp p (ordD j)) = lfF F n b p - 1)
def wbJ (F : Nat → ByteArray) (n : Nat) (b p : Int × Int) : Nat := if wbT F n b p 0 = true then 0 else if wbT F n b p 1 = true then 1 else if wbT F n b p 2 = true then 2 else 3
def ltrB (d : Nat) : ByteArray := if d = 0 then ⟨#[110]⟩ else if d = 1 then ⟨#[101]⟩ else if d = 2 then ⟨#[115]⟩ else ⟨#[119]⟩
theorem ltrB_size (d : Nat) : (ltrB d).size = 1 := by unfold ltrB; split <;> (try split) <;> (try split) <;> rfl
/-- What is behind s when the way goes on from p, so many steps. -/
def wbG (F : Nat → ByteArray) (n : Nat) (b : Int × Int) : Nat → Int × Int → ByteArray → ByteArray
  | 0, _, s => s
  | k + 1, p, s => wbG F n b k (stp p (ordD (wbJ F n b p))) (s ++ ltrB (ordD (wbJ F n b p)))
section
variable {F : Nat → ByteArray} {n : Nat} {b p : Int × Int} {j k : Nat}
theorem wbJ_at (h : wbT F n b p j = true) (hj : j < 4) (hlt : ∀ i, i < j → wbT F n b p i = false) : wbJ F n b p = j := by
  have h4 : j = 0 ∨ j = 1 ∨ j = 2 ∨ j = 3 := by omega
  rcases h4 with rfl | rfl | rfl | rfl
  · simp [wbJ, h]
  · simp [wbJ, h, hlt 0 (by omega)]
  · simp [wbJ, h, hlt 0 (by omega), hlt 1 (by omega)]
  · simp [wbJ, hlt 0 (by omega), hlt 1 (by omega), hlt 2 (by omega)]
theorem wb_some (hb : opP F n b = true) (hp : opP F n p = true) (h : lfF F n b p = (k + 1 : Nat)) (hlt : ∀ i, i < 4 → wbT F n b p i = false) : False := by
  have h' : stF F n b (ixF F p) = (k + 1 : Nat) := h
  rcases stF_near hb hp (by rw [h']; omega) with rfl | ⟨_, d, hd, ho, hs⟩
  · rw [stF_zero hb] at h'
    omega
  · have h1 := hlt (ordD d) (ordD_lt hd)
    rw [wbT, ordD_ordD, ho] at h1
    have h2 : lfF F n b (stp p d) = lfF F n b p - 1 := by show stF F n b _ = stF F n b _ - 1; omega
    rw [decide_eq_true h2] at h1
    exact absurd h1 (by decide)
theorem wb_same (hb : opP F n b = true) (hp : opP F n p = true) (h : 0 ≤ lfF F n b p) : p = b ↔ lfF F n b p = 0 := by
  constructor
  · rintro rfl
    exact stF_zero hb
  · intro h0
    rcases stF_near hb hp h with e | ⟨h1, _⟩
    · exact e
    · have : stF F n b (ixF F p) = 0 := h0
      omega
theorem wbG_step {s : ByteArray} (h : wbT F n b p j = true) (hj : j < 4) (hlt : ∀ i, i < j → wbT F n b p i = false) : wbG F n b (k + 1) p s = wbG F n b k (stp p (ordD j)) (s ++ ltrB (ordD j)) := by
  rw [wbG, wbJ_at h hj hlt]
theorem wb_parts (h : wbT F n b p j = true) : opP F n (stp p (ordD j)) = true ∧ lfF F n b (stp p (ordD j)) = lfF F n b p - 1 := by
  simp only [wbT, Bool.and_eq_true, decide_eq_true_eq] at h
  exact h
theorem lf_bd (hb : opP F n b = true) (p : Int × Int) : -1 ≤ lfF F n b p ∧ lfF F n b p < (n * (F 0).size : Nat) := stF_bd hb _
end

end Go.Proofs.YtpckhpkbdanjoaaDoor
