/-
  Texts of this proof, one behind the other (part 15).
-/
import Derived.Test.YtpckhpkbdanjoaaDoorQ14
import Derived.Deep.Onto
import Derived.Deep.LoopGhost
import Derived.Deep.DeepAppendRoom
/-
  Walks: the library's search of a list of cells, at the closures of SearchedCells.-/
namespace Go.Proofs.YtpckhpkbdanjoaaDoor
set_option linter.unusedVariables false
set_option linter.unusedSimpArgs false
open Go.RowKit

set_option maxHeartbeats 800000 in
theorem near1_any (x y a b : Int) (rb cb : Nat) (w : World) (hr : w.cell? ⟨rb, 0, none⟩ = some (.int .i64 x)) (hc : w.cell? ⟨cb, 0, none⟩ = some (.int .i64 y)) (lr : rb < w.heap.size) (lc : cb < w.heap.size)
    (hx : 0 ≤ x) (hx' : x ≤ 1000) (hy : 0 ≤ y) (hy' : y ≤ 1000) (hp : (0 ≤ a ∧ a ≤ 1000) ∧ 0 ≤ b ∧ b ≤ 1000) :
    Calls Tryd.prog 94 #[.agg #[.int .i64 a, .int .i64 b], .pointer (some ⟨rb, 0, none⟩), .pointer (some ⟨cb, 0, none⟩)] w fun e w' => e = .returned (.bool (nearB x y a b)) ∧ Below w.heap.size w w' := by
  have z1 : IntKind.i64.wrap (a - x) = a - x := IntWalk.i64_in _ (by omega)
  have z2 : IntKind.i64.wrap (b - y) = b - y := IntWalk.i64_in _ (by omega)
  cases e1 : inB (a - x) (-1) 1 with
  | false =>
    have HG : Hid (nearB x y a b = false) := by show _ = _; rw [nearB, e1]; rfl
    go_enter Tryd.func94, Tryd.ntmps94
    go_wp2_with (first | (go_at_call 68; refine (inside_any _ _ _ _).mono ?_; rintro e w' ⟨rfl, rfl⟩))
    go_ret
    exact ⟨ret_bool HG.out.symm, (by repeat (first | (with_reducible exact Below.refl _ _) | (with_reducible refine below_ov ?_ ?_) | (with_reducible refine Below.setCell ?_ ?_ _) | (with_reducible refine Below.alloc ?_ ?_ _) | (with_reducible refine Below.drew ?_) | (with_reducible refine below_drewN ?_ _) | (refine Below.trans ?_ (Below.mono ‹Below _ _ _› (by first | omega | (simp; done) | (simp; omega)))) | exact Below.refl _ _ | omega | (focus (simp; done)) | (focus (simp; omega))))⟩
  | true =>
    have HG : Hid (nearB x y a b = inB (b - y) (-1) 1) := by show _ = _; rw [nearB, e1]; rfl
    go_enter Tryd.func94, Tryd.ntmps94
    go_wp2_with (first | (go_at_call 68; refine (inside_any _ _ _ _).mono ?_; rintro e w' ⟨rfl, rfl⟩))
    go_ret
    exact ⟨ret_bool HG.out.symm, (by repeat (first | (with_reducible exact Below.refl _ _) | (with_reducible refine below_ov ?_ ?_) | (with_reducible refine Below.setCell ?_ ?_ _) | (with_reducible refine Below.alloc ?_ ?_ _) | (with_reducible refine Below.drew ?_) | (with_reducible refine below_drewN ?_ _) | (refine Below.trans ?_ (Below.mono ‹Below _ _ _› (by first | omega | (simp; done) | (simp; omega)))) | exact Below.refl _ _ | omega | (focus (simp; done)) | (focus (simp; omega))))⟩
set_option maxRecDepth 100000 in
set_option maxHeartbeats 1600000 in
theorem IndexFuncN_any (x y : Int) (rb cb : Nat) (p q : Nat → Int) (m lo2 hi2 : Nat) (u : Value) (w : World) (hu : Sl w lo2 hi2 2 u m (iiC p q)) (hhi2 : hi2 ≤ w.heap.size) (hm : m ≤ 1048576) (hr : w.cell? ⟨rb, 0, none⟩ = some (.int .i64 x)) (hc : w.cell? ⟨cb, 0, none⟩ = some (.int .i64 y)) (lr : rb < w.heap.size) (lc : cb < w.heap.size) (hx : 0 ≤ x) (hx' : x ≤ 1000) (hy : 0 ≤ y) (hy' : y ≤ 1000) (hp : ∀ t, t < m → (0 ≤ p t ∧ p t ≤ 1000) ∧ 0 ≤ q t ∧ q t ≤ 1000) :
    Calls Tryd.prog 93 #[u, .func (.func 94) #[] #[.pointer (some ⟨rb, 0, none⟩), .pointer (some ⟨cb, 0, none⟩)]] w fun e w' => e = .returned (.int .i64 (fstI (fun t => nearB x y (p t) (q t)) m)) ∧ Below w.heap.size w w' := by
  obtain ⟨A, cap, rfl, hcap, hA⟩ := hu.open_
  clear hu
  go_enter Tryd.func93, Tryd.ntmps93
  go_wp2_with fail
  go_loopw [8] (fun i wr => ∃ k : Nat, k ≤ m ∧ i = .int .i64 k ∧ Hid (∀ j, j < k → (fun t => nearB x y (p t) (q t)) j = false) ∧ Below w.heap.size w wr) (fun i _ => m - (intOf i).toNat)
  case atStart => exact ⟨0, by omega, rfl, fun j hj => by omega, Below.refl _ _⟩
  case round =>
    obtain ⟨k, hk, rfl, hj, hb⟩ := hrel
    have hzr := hb.size
    by_cases hkn : k < m
    · obtain ⟨blk, off, rfl, h1, h2, h3⟩ := (hA.below hb (by omega)) (by omega)
      have c0 : wr.cell? ⟨blk, off + k * 2, none⟩ = some (.int .i64 (p k)) := by simpa [iiC] using h3 k 0 hkn (by omega)
      have c1 : wr.cell? ⟨blk, off + k * 2 + 1, none⟩ = some (.int .i64 (q k)) := by simpa [iiC] using h3 k 1 hkn (by omega)
      clear h3 hA
      obtain ⟨tst, htst⟩ : ∃ b, (fun t => nearB x y (p t) (q t)) k = b := ⟨_, rfl⟩
      have HT := hide htst
      have hcon := near1_any x y (p k) (q k) rb cb wr ((hb.cell (p := ⟨rb, 0, none⟩) lr).trans hr) ((hb.cell (p := ⟨cb, 0, none⟩) lc).trans hc) (by omega) (by omega) hx hx' hy hy' (hp k hkn)
      rw [show nearB x y (p k) (q k) = tst from htst] at hcon
      clear htst
      cases tst with
      | false =>
        go_wp2_with fail
        refine hcon.mono ?_
        rintro e w2 ⟨rfl, hb2⟩
        have hz2 := hb2.size
        have hbw : Below w.heap.size w w2 := hb.trans (hb2.mono hzr)
        go_wp2_with fail
        go_roundw
        case rel => exact ⟨k + 1, by omega, by go_num, upto_snocF hj.out HT.out, hbw⟩
        case measure => simp [intOf]; omega
      | true =>
        have HG : Hid (fstI (fun t => nearB x y (p t) (q t)) m = k) := fstI_at hkn hj.out HT.out
        go_wp2_with fail
        refine hcon.mono ?_
        rintro e w2 ⟨rfl, hb2⟩
        have hbw : Below w.heap.size w w2 := hb.trans (hb2.mono hzr)
        go_wp2_with fail
        go_ret
        exact ⟨ret_int HG.out.symm, hbw⟩
    · obtain rfl : k = m := by omega
      go_wp2_with fail
      go_ret
      exact ⟨ret_int (fstI_none hj.out).symm, hb⟩
set_option maxHeartbeats 800000 in
theorem ContainsFuncN_any (x y : Int) (rb cb : Nat) (p q : Nat → Int) (m lo2 hi2 : Nat) (u : Value) (w : World) (hu : Sl w lo2 hi2 2 u m (iiC p q)) (hhi2 : hi2 ≤ w.heap.size) (hm : m ≤ 1048576) (hr : w.cell? ⟨rb, 0, none⟩ = some (.int .i64 x)) (hc : w.cell? ⟨cb, 0, none⟩ = some (.int .i64 y)) (lr : rb < w.heap.size) (lc : cb < w.heap.size) (hx : 0 ≤ x) (hx' : x ≤ 1000) (hy : 0 ≤ y) (hy' : y ≤ 1000) (hp : ∀ t, t < m → (0 ≤ p t ∧ p t ≤ 1000) ∧ 0 ≤ q t ∧ q t ≤ 1000) :
    Calls Tryd.prog 57 #[u, .func (.func 94) #[] #[.pointer (some ⟨rb, 0, none⟩), .pointer (some ⟨cb, 0, none⟩)]] w fun e w' => e = .returned (.bool (decide (0 ≤ fstI (fun t => nearB x y (p t) (q t)) m))) ∧ Below w.heap.size w w' := by
  obtain ⟨A, cap, rfl, hcap, hA⟩ := id hu.open_
  go_enter Tryd.func57, Tryd.ntmps57
  go_wp2_with fail
  refine (IndexFuncN_any x y rb cb p q m lo2 hi2 _ w hu hhi2 hm hr hc lr lc hx hx' hy hy' hp).mono ?_
  rintro e w2 ⟨rfl, hb2⟩
  go_wp2_with fail
  go_ret
  exact ⟨ret_bool (by first | rfl | (simp [ge_iff_le])), hb2⟩
set_option maxHeartbeats 800000 in
theorem nopen1_any (F : Nat → ByteArray) (n lo hi : Nat) (v : Value) (a b : Int) (fb : Nat) (w : World) (hv : Sl w lo hi 1 v n (sC F)) (hhi : hi ≤ w.heap.size) (hg : flB F n = true) (hf : w.cell? ⟨fb, 0, none⟩ = some v) (lf : fb < w.heap.size) :
    Calls Tryd.prog 58 #[.agg #[.int .i64 a, .int .i64 b], .pointer (some ⟨fb, 0, none⟩)] w fun e w' => e = .returned (.bool (!opB F n a b)) ∧ Below w.heap.size w w' := by
  obtain ⟨A, cap, rfl, hcap, hA⟩ := id hv.open_
  go_enter Tryd.func58, Tryd.ntmps58
  go_wp2_with fail
  refine (isOpen_any F n a b lo hi _ _ (hv.below (B := w.heap.size) (by repeat (first | (with_reducible exact Below.refl _ _) | (with_reducible refine below_ov ?_ ?_) | (with_reducible refine Below.setCell ?_ ?_ _) | (with_reducible refine Below.alloc ?_ ?_ _) | (with_reducible refine Below.drew ?_) | (with_reducible refine below_drewN ?_ _) | (refine Below.trans ?_ (Below.mono ‹Below _ _ _› (by first | omega | (simp; done) | (simp; omega)))) | exact Below.refl _ _ | omega | (focus (simp; done)) | (focus (simp; omega)))) hhi) (by first | omega | (simp; done) | (simp; omega)) hg).mono ?_
  rintro e w1 ⟨rfl, hb1⟩
  have hz1 := hb1.size
  go_wp2_with fail
  go_ret
  exact ⟨rfl, (by repeat (first | (with_reducible exact Below.refl _ _) | (with_reducible refine below_ov ?_ ?_) | (with_reducible refine Below.setCell ?_ ?_ _) | (with_reducible refine Below.alloc ?_ ?_ _) | (with_reducible refine Below.drew ?_) | (with_reducible refine below_drewN ?_ _) | (refine Below.trans ?_ (Below.mono ‹Below _ _ _› (by first | omega | (simp; done) | (simp; omega)))) | exact Below.refl _ _ | omega | (focus (simp; done)) | (focus (simp; omega))))⟩
set_option maxRecDepth 100000 in
set_option maxHeartbeats 1600000 in
theorem IndexFuncO_any (F : Nat → ByteArray) (n lo hi : Nat) (v : Value) (fb : Nat) (p q : Nat → Int) (m lo2 hi2 : Nat) (u : Value) (w : World) (hu : Sl w lo2 hi2 2 u m (iiC p q)) (hhi2 : hi2 ≤ w.heap.size) (hm : m ≤ 1048576) (hv : Sl w lo hi 1 v n (sC F)) (hhi : hi ≤ w.heap.size) (hg : flB F n = true) (hf : w.cell? ⟨fb, 0, none⟩ = some v) (lf : fb < w.heap.size) :
    Calls Tryd.prog 93 #[u, .func (.func 58) #[] #[.pointer (some ⟨fb, 0, none⟩)]] w fun e w' => e = .returned (.int .i64 (fstI (fun t => !opB F n (p t) (q t)) m)) ∧ Below w.heap.size w w' := by
  obtain ⟨A, cap, rfl, hcap, hA⟩ := hu.open_
  clear hu
  go_enter Tryd.func93, Tryd.ntmps93
  go_wp2_with fail
  go_loopw [8] (fun i wr => ∃ k : Nat, k ≤ m ∧ i = .int .i64 k ∧ Hid (∀ j, j < k → (fun t => !opB F n (p t) (q t)) j = false) ∧ Below w.heap.size w wr) (fun i _ => m - (intOf i).toNat)
  case atStart => exact ⟨0, by omega, rfl, fun j hj => by omega, Below.refl _ _⟩
  case round =>
    obtain ⟨k, hk, rfl, hj, hb⟩ := hrel
    have hzr := hb.size
    by_cases hkn : k < m
    · obtain ⟨blk, off, rfl, h1, h2, h3⟩ := (hA.below hb (by omega)) (by omega)
      have c0 : wr.cell? ⟨blk, off + k * 2, none⟩ = some (.int .i64 (p k)) := by simpa [iiC] using h3 k 0 hkn (by omega)
      have c1 : wr.cell? ⟨blk, off + k * 2 + 1, none⟩ = some (.int .i64 (q k)) := by simpa [iiC] using h3 k 1 hkn (by omega)
      clear h3 hA
      obtain ⟨tst, htst⟩ : ∃ b, (fun t => !opB F n (p t) (q t)) k = b := ⟨_, rfl⟩
      have HT := hide htst
      have hcon := nopen1_any F n lo hi v (p k) (q k) fb wr (hv.below (B := w.heap.size) hb hhi) (by omega) hg ((hb.cell (p := ⟨fb, 0, none⟩) lf).trans hf) (by omega)
      rw [show (!opB F n (p k) (q k)) = tst from htst] at hcon
      clear htst
      cases tst with
      | false =>
        go_wp2_with fail
        refine hcon.mono ?_
        rintro e w2 ⟨rfl, hb2⟩
        have hz2 := hb2.size
        have hbw : Below w.heap.size w w2 := hb.trans (hb2.mono hzr)
        go_wp2_with fail
        go_roundw
        case rel => exact ⟨k + 1, by omega, by go_num, upto_snocF hj.out HT.out, hbw⟩
        case measure => simp [intOf]; omega
      | true =>
        have HG : Hid (fstI (fun t => !opB F n (p t) (q t)) m = k) := fstI_at hkn hj.out HT.out
        go_wp2_with fail
        refine hcon.mono ?_
        rintro e w2 ⟨rfl, hb2⟩
        have hbw : Below w.heap.size w w2 := hb.trans (hb2.mono hzr)
        go_wp2_with fail
        go_ret
        exact ⟨ret_int HG.out.symm, hbw⟩
    · obtain rfl : k = m := by omega
      go_wp2_with fail
      go_ret
      exact ⟨ret_int (fstI_none hj.out).symm, hb⟩
set_option maxHeartbeats 800000 in
theorem ContainsFuncO_any (F : Nat → ByteArray) (n lo hi : Nat) (v : Value) (fb : Nat) (p q : Nat → Int) (m lo2 hi2 : Nat) (u : Value) (w : World) (hu : Sl w lo2 hi2 2 u m (iiC p q)) (hhi2 : hi2 ≤ w.heap.size) (hm : m ≤ 1048576) (hv : Sl w lo hi 1 v n (sC F)) (hhi : hi ≤ w.heap.size) (hg : flB F n = true) (hf : w.cell? ⟨fb, 0, none⟩ = some v) (lf : fb < w.heap.size) :
    Calls Tryd.prog 57 #[u, .func (.func 58) #[] #[.pointer (some ⟨fb, 0, none⟩)]] w fun e w' => e = .returned (.bool (decide (0 ≤ fstI (fun t => !opB F n (p t) (q t)) m))) ∧ Below w.heap.size w w' := by
  obtain ⟨A, cap, rfl, hcap, hA⟩ := id hu.open_
  go_enter Tryd.func57, Tryd.ntmps57
  go_wp2_with fail
  refine (IndexFuncO_any F n lo hi v fb p q m lo2 hi2 _ w hu hhi2 hm hv hhi hg hf lf).mono ?_
  rintro e w2 ⟨rfl, hb2⟩
  go_wp2_with fail
  go_ret
  exact ⟨ret_bool (by first | rfl | (simp [ge_iff_le])), hb2⟩

end Go.Proofs.YtpckhpkbdanjoaaDoor

/-
  Walks: the reference puts a number into an increasing list.-/
namespace Go.Proofs.YtpckhpkbdanjoaaDoor
set_option linter.unusedVariables false
set_option linter.unusedSimpArgs false
open Go.RowKit

theorem infoIntP : (Tryd.prog.info? 3).map (fun i => (i.zero, i.size, i.bytes)) = some (some (.int .i64 0), 1, 8) := by kernel_rfl
/-- A row of the call's own that holds the places that pass a test. -/
def PRowI (w : World) (base : Nat) (v : Value) (P : Nat → Bool) (N : Nat) : Prop := w.ownsRow base 3 1 v (flt P N).length (fltV P N)
theorem fltV_or {p : Nat → Bool} {x n : Nat} (h : p x = false) (hx : x < n) : fltV (orP p x) n = fltV p x ++ [.int .i64 (x : Nat)] ++ (fltR p x n).map (fun (i : Nat) => Value.int .i64 (i : Int)) ∧ (flt (orP p x) n).length = (flt p x).length + 1 + (fltR p x n).length := by
  rw [fltV, flt_or h hx]
  constructor
  · simp [fltV]
  · simp; omega
theorem fltV_cell {P : Nat → Bool} {N j y : Nat} (h : (flt P N)[j]? = some y) : (fltV P N)[j]? = some (.int .i64 (y : Int)) := by
  rw [fltV, List.getElem?_map, h]
  rfl
theorem fltV_split (p : Nat → Bool) {x n : Nat} (h : x ≤ n) : fltV p n = fltV p x ++ (fltR p x n).map (fun (i : Nat) => Value.int .i64 (i : Int)) ∧ (flt p n).length = (flt p x).length + (fltR p x n).length := by
  rw [fltV, flt_split p x n h]
  exact ⟨by simp [fltV], by simp⟩
set_option maxRecDepth 100000 in
set_option maxHeartbeats 3200000 in
theorem l1Put_some (P : Nat → Bool) (N x base n g cap : Nat) (w : World) (hn : (flt P N).length = n) (hv : PRowI w base (.slice (some ⟨g, 0, none⟩) n cap) P N) (hx : x < N) (hN : N ≤ 1000) (hb0 : base ≤ w.heap.size) :
    Calls Tryd.prog 90 #[.slice (some ⟨g, 0, none⟩) n cap, .int .i64 x] w fun e w' => ∃ v', e = .returned v' ∧ PRowI w' base v' (orP P x) N ∧ Below w.heap.size w w' := by
  obtain ⟨ii, hii, iz0, iz1, iz2⟩ := info_parts infoIntP
  obtain ⟨K, hK⟩ : ∃ K, (flt P x).length = K := ⟨_, rfl⟩
  have hKn : K ≤ n := by rw [← hK, ← hn, flt_split P x N (by omega)]; simp
  have hn1000 : n ≤ 1000 := by have := flt_len P N; omega
  have hnc : n ≤ cap ∧ cap ≤ maxLen := by
    rcases hv.2 with ⟨h0, _⟩ | ⟨g', cap', cur, h0, _, _, h1, h2, _⟩
    · cases h0
    · cases h0; exact ⟨by rw [← hn]; exact h1, h2⟩
  obtain ⟨hcap, hcm⟩ := hnc
  unfold maxLen at hcm
  have hgl : g < w.heap.size := (hv.lt g rfl).2
  have HC : Hid (∀ (j : Nat) u, (fltV P N)[j]? = some u → w.cell? ⟨g, j, none⟩ = some u) := fun j u hu => by
    have := hv.cells rfl j u hu
    rwa [Addr.add_lit, Nat.zero_add] at this
  have HLo : Hid (∀ j, j < K → ∃ y : Nat, w.cell? ⟨g, j, none⟩ = some (.int .i64 y) ∧ y < x) := fun j hj => by
    obtain ⟨y, h1, h2⟩ := flt_below (p := P) (x := x) (n := N) (j := j) (by omega) (by omega)
    exact ⟨y, HC.out j _ (fltV_cell h1), h2⟩
  have HUp : Hid (K < n → ∃ y : Nat, w.cell? ⟨g, K, none⟩ = some (.int .i64 y) ∧ x ≤ y ∧ (y = x ↔ P x = true)) := fun h => by
    have h1 : K < (flt P N).length := by omega
    have h2 := List.getElem?_eq_getElem h1
    refine ⟨(flt P N)[K], HC.out K _ (fltV_cell h2), flt_above (x := x) (by omega) (by omega) h2, ?_⟩
    have h3 := flt_head (p := P) (x := x) (n := N) hx
    rw [hK, h2] at h3
    simpa using h3
  have HEnd : Hid (K = n → P x = false) := fun h => by
    cases hp : P x with
    | false => rfl
    | true =>
      have h3 := (flt_head (p := P) (x := x) (n := N) hx).2 hp
      rw [hK, List.getElem?_eq_none (by omega)] at h3
      cases h3
  have HN := hide hn
  have HV := hide hv
  have HK := hide hK
  clear hv hn hK
  go_enter Tryd.func90, Tryd.ntmps90
  go_wp2_with fail
  go_loopg [5] (K + 1) (fun gn i wr => ∃ k : Nat, k ≤ K ∧ K - k < gn ∧ i = .int .i64 k ∧ Below w.heap.size w wr)
  case atStart => exact ⟨0, by omega, by omega, rfl, Below.refl _ _⟩
  case round =>
    obtain ⟨k, hk, hgn, rfl, hb⟩ := hrel
    have hzr := hb.size
    have l0 : g < wr.heap.size := by omega
    by_cases hkK : k < K
    · obtain ⟨y, hy, hyx⟩ := HLo.out k hkK
      have c0 : wr.cell? ⟨g, k, none⟩ = some (.int .i64 (y : Nat)) := (hb.cell (p := ⟨g, k, none⟩) hgl).trans hy
      have d1 : decide ((k : Int) < (n : Int)) = true := decide_eq_true (by omega)
      have d1' : decide (k < n) = true := decide_eq_true (by omega)
      have d2 : decide ((y : Int) < (x : Int)) = true := decide_eq_true (by omega)
      have d2' : decide (y < x) = true := decide_eq_true (by omega)
      clear hy
      go_wp2_with fail
      go_roundg (K - k)
      case measure => omega
      case rel => exact ⟨k + 1, by omega, by omega, by go_num, hb⟩
    · obtain rfl : k = K := by omega
      cases hp : P x with
      | true =>
        have hkn : k < n := by
          rcases Nat.lt_or_ge k n with h | h
          · exact h
          · have := HEnd.out (by omega)
            rw [hp] at this
            cases this
        obtain ⟨y, hy, _, hyx⟩ := HUp.out hkn
        have e := hyx.2 hp
        rw [e] at hy
        have c0 : wr.cell? ⟨g, k, none⟩ = some (.int .i64 (x : Nat)) := (hb.cell (p := ⟨g, k, none⟩) hgl).trans hy
        have d1 : decide ((k : Int) < (n : Int)) = true := decide_eq_true (by omega)
        have d1' : decide (k < n) = true := decide_eq_true hkn
        have HE : Hid (PRowI wr base (.slice (some ⟨g, 0, none⟩) n cap) (orP P x) N) := by
          show PRowI _ _ _ _ _
          rw [PRowI, fltV, orP_same hp]
          exact row_below HV.out hb (Nat.le_refl _)
        clear hy hyx e
        go_wp2_with fail
        go_ret
        exact ⟨_, rfl, HE.out, hb⟩
      | false =>
        have HO := hide (fltV_or hp hx)
        have hrs := (fltV_split P (Nat.le_of_lt hx)).2
        by_cases hkn : k < n
        · obtain ⟨y, hy, hy1, hy2⟩ := HUp.out hkn
          have hyx : x < y := by
            rcases Nat.lt_or_ge x y with h | h
            · exact h
            · have := hy2.1 (by omega)
              rw [hp] at this
              cases this
          have c0 : wr.cell? ⟨g, k, none⟩ = some (.int .i64 (y : Nat)) := (hb.cell (p := ⟨g, k, none⟩) hgl).trans hy
          have d1 : decide ((k : Int) < (n : Int)) = true := decide_eq_true (by omega)
          have d1' : decide (k < n) = true := decide_eq_true hkn
          have d2 : decide ((y : Int) < (x : Int)) = false := decide_eq_false (by omega)
          have d2' : decide (y < x) = false := decide_eq_false (by omega)
          have d3 : ((y : Int) == (x : Int)) = false := by simp; omega
          have d3' : (y == x) = false := by simp; omega
          have hck : ¬ cap = k := by omega
          clear hy hy1 hy2
          have r1 : (wr.alloc (.cells #[] 3)).ownsRow wr.heap.size 3 1 (.slice (some ⟨wr.heap.size, 0, none⟩) 0 0) 0 [] := by simpa using World.ownsRow_made wr (base := wr.heap.size) (e := 3) (size := 1) #[] 0 (by simp) (Nat.zero_le _) rfl
          go_wp2_with (at_builtin; refine wpList_append_own _ rfl _ _ 48 rfl wr.heap.size 3 ii (.int .i64 0) 1 8 Tryd.underlying48 hii iz0 iz1 iz2 rfl (by decide) _ 0 [] rfl r1 ⟨g, 0, none⟩ k cap (fltV P x) rfl ?_ ?_ ?_ ?_ ?_ ?_ ?_)
          · simp [fltV, HK.out]
          · intro j u hu
            rw [Addr.add_lit, Nat.zero_add]
            refine (World.cell?_alloc_lt _ _ _ l0).trans ((hb.cell (p := ⟨g, j, none⟩) hgl).trans (HC.out j u ?_))
            rw [(fltV_split P (Nat.le_of_lt hx)).1, List.getElem?_append_left]
            · exact hu
            · exact (List.getElem?_eq_some_iff.1 hu).1
          · intro u hu
            obtain ⟨i, _, rfl⟩ := List.mem_map.1 hu
            rfl
          · unfold maxLen; omega
          · omega
          · simp
          intro v2 w2 hown2 hg2 _
          have hb2 : Below wr.heap.size wr w2 := ((Below.refl wr.heap.size wr).alloc (Nat.le_refl _) _).grown hg2 (by simp) (fun q hq => (r1.lt q hq).1)
          have hz2 := hb2.size
          obtain ⟨B2, c2, rfl⟩ := row_form hown2
          go_wp2_with (at_builtin; refine wpList_append_own _ rfl _ _ 48 rfl wr.heap.size 3 ii (.int .i64 0) 1 8 Tryd.underlying48 hii iz0 iz1 iz2 rfl (by decide) _ k (fltV P x) rfl (hown2.alloc _) ⟨w2.heap.size, 0, none⟩ 1 1 [.int .i64 (x : Nat)] rfl rfl ?_ ?_ ?_ ?_ ?_ ?_)
          · intro i u hu
            match i, hu with
            | 0, hu => simp at hu; subst hu; simp [go_sem, Addr.add]
          · intro u hu; simp at hu; subst hu; rfl
          · unfold maxLen; omega
          · omega
          · simp; omega
          intro v3 w3 hown3 hg3 _
          have hb3 : Below wr.heap.size wr w3 := (hb2.alloc hz2 _).grown hg3 (by simp; omega) (fun q hq => (hown2.lt q hq).1)
          have hz3 := hb3.size
          obtain ⟨B3, c3, rfl⟩ := row_form hown3
          have hsl : ∀ W, (Instr.slice 48 (.slice (some ⟨g, 0, none⟩) n cap) (some (.int .i64 (k : Nat))) none none).run Tryd.prog W = .ok (.slice (some ⟨g, k, none⟩) (n - k) (cap - k)) W := fun W => by
            simp [go_sem, Tryd.underlying48, hck]
            omega
          go_wp2_with (at_builtin; refine wpList_append_own _ rfl _ _ 48 rfl wr.heap.size 3 ii (.int .i64 0) 1 8 Tryd.underlying48 hii iz0 iz1 iz2 rfl (by decide) _ _ _ rfl hown3 ⟨g, k, none⟩ _ _ ((fltR P x N).map (fun (i : Nat) => Value.int .i64 (i : Int))) rfl ?_ ?_ ?_ ?_ ?_ ?_ ?_)
          · simp
            have := HN.out
            have := HK.out
            omega
          · intro j u hu
            rw [Addr.add_lit]
            refine (hb3.cell (p := ⟨g, k + j, none⟩) l0).trans ((hb.cell (p := ⟨g, k + j, none⟩) hgl).trans (HC.out (k + j) u ?_))
            rw [(fltV_split P (Nat.le_of_lt hx)).1, List.getElem?_append_right (by simp [fltV, HK.out])]
            have e : (fltV P x).length = k := by simp [fltV, HK.out]
            rw [e, Nat.add_sub_cancel_left]
            exact hu
          · intro u hu
            obtain ⟨i, _, rfl⟩ := List.mem_map.1 hu
            rfl
          · unfold maxLen; omega
          · omega
          · omega
          intro v4 w4 hown4 hg4 _
          have hb4 : Below wr.heap.size wr w4 := hb3.grown hg4 hz3 (fun q hq => (hown3.lt q hq).1)
          have HF : Hid (PRowI w4 base v4 (orP P x) N) := by
            show PRowI _ _ _ _ _
            have e : (flt (orP P x) N).length = k + 1 + (n - k) := by
              rw [HO.out.2, HK.out]
              have := HN.out
              have := HK.out
              omega
            rw [PRowI, e, HO.out.1]
            have h5 := hown4.mono (show base ≤ wr.heap.size by omega)
            simpa using h5
          have hbw : Below w.heap.size w w4 := hb.trans (hb4.mono hzr)
          clear hown2 hown3 hown4 hg2 hg3 hg4
          go_wp2_with fail
          go_ret
          exact ⟨_, rfl, HF.out, hbw⟩
        · have HKN : Hid (n = k) := by show _ = _; omega
          have d1 : decide ((k : Int) < (n : Int)) = false := decide_eq_false (by omega)
          have d1' : decide (k < n) = false := decide_eq_false hkn
          have hkn2 : k ≤ n := hKn
          by_cases hck : cap = k
          · obtain rfl : k = cap := hck.symm
            clear hck
            have r1 : (wr.alloc (.cells #[] 3)).ownsRow wr.heap.size 3 1 (.slice (some ⟨wr.heap.size, 0, none⟩) 0 0) 0 [] := by simpa using World.ownsRow_made wr (base := wr.heap.size) (e := 3) (size := 1) #[] 0 (by simp) (Nat.zero_le _) rfl
            go_wp2_with (at_builtin; refine wpList_append_own _ rfl _ _ 48 rfl wr.heap.size 3 ii (.int .i64 0) 1 8 Tryd.underlying48 hii iz0 iz1 iz2 rfl (by decide) _ 0 [] rfl r1 ⟨g, 0, none⟩ k k (fltV P x) rfl ?_ ?_ ?_ ?_ ?_ ?_ ?_)
            · simp [fltV, HK.out]
            · intro j u hu
              rw [Addr.add_lit, Nat.zero_add]
              refine (World.cell?_alloc_lt _ _ _ l0).trans ((hb.cell (p := ⟨g, j, none⟩) hgl).trans (HC.out j u ?_))
              rw [(fltV_split P (Nat.le_of_lt hx)).1, List.getElem?_append_left]
              · exact hu
              · exact (List.getElem?_eq_some_iff.1 hu).1
            · intro u hu
              obtain ⟨i, _, rfl⟩ := List.mem_map.1 hu
              rfl
            · unfold maxLen; omega
            · omega
            · simp
            intro v2 w2 hown2 hg2 _
            have hb2 : Below wr.heap.size wr w2 := ((Below.refl wr.heap.size wr).alloc (Nat.le_refl _) _).grown hg2 (by simp) (fun q hq => (r1.lt q hq).1)
            have hz2 := hb2.size
            obtain ⟨B2, c2, rfl⟩ := row_form hown2
            go_wp2_with (at_builtin; refine wpList_append_own _ rfl _ _ 48 rfl wr.heap.size 3 ii (.int .i64 0) 1 8 Tryd.underlying48 hii iz0 iz1 iz2 rfl (by decide) _ k (fltV P x) rfl (hown2.alloc _) ⟨w2.heap.size, 0, none⟩ 1 1 [.int .i64 (x : Nat)] rfl rfl ?_ ?_ ?_ ?_ ?_ ?_)
            · intro i u hu
              match i, hu with
              | 0, hu => simp at hu; subst hu; simp [go_sem, Addr.add]
            · intro u hu; simp at hu; subst hu; rfl
            · unfold maxLen; omega
            · omega
            · simp; omega
            intro v3 w3 hown3 hg3 _
            have hb3 : Below wr.heap.size wr w3 := (hb2.alloc hz2 _).grown hg3 (by simp; omega) (fun q hq => (hown2.lt q hq).1)
            have hz3 := hb3.size
            obtain ⟨B3, c3, rfl⟩ := row_form hown3
            have hsl : ∀ W, (Instr.slice 48 (.slice (some ⟨g, 0, none⟩) n k) (some (.int .i64 (k : Nat))) none none).run Tryd.prog W = .ok (.slice (some ⟨g, 0, none⟩) (n - k) 0) W := fun W => by
              simp [go_sem, Tryd.underlying48]
              omega
            go_wp2_with (at_builtin; refine wpList_append_own _ rfl _ _ 48 rfl wr.heap.size 3 ii (.int .i64 0) 1 8 Tryd.underlying48 hii iz0 iz1 iz2 rfl (by decide) _ _ _ rfl hown3 ⟨g, 0, none⟩ _ _ ((fltR P x N).map (fun (i : Nat) => Value.int .i64 (i : Int))) rfl ?_ ?_ ?_ ?_ ?_ ?_ ?_)
            · have := HN.out
              have := HK.out
              have := HKN.out
              have e : (fltR P x N).length = 0 := by omega
              simp [List.eq_nil_of_length_eq_zero e]
            · intro j u hu
              have h0 := (List.getElem?_eq_some_iff.1 hu).1
              simp at h0
              have := HN.out
              have := HK.out
              have := HKN.out
              omega
            · intro u hu
              obtain ⟨i, _, rfl⟩ := List.mem_map.1 hu
              rfl
            · unfold maxLen; omega
            · omega
            · omega
            intro v4 w4 hown4 hg4 _
            have hb4 : Below wr.heap.size wr w4 := hb3.grown hg4 hz3 (fun q hq => (hown3.lt q hq).1)
            have HF : Hid (PRowI w4 base v4 (orP P x) N) := by
              show PRowI _ _ _ _ _
              have e : (flt (orP P x) N).length = k + 1 + (n - k) := by
                rw [HO.out.2, HK.out]
                have := HN.out
                have := HK.out
                omega
              rw [PRowI, e, HO.out.1]
              have h5 := hown4.mono (show base ≤ wr.heap.size by omega)
              rw [show k + 1 + (n - k) = k + 1 by have := HKN.out; omega]
              simpa using h5
            have hbw : Below w.heap.size w w4 := hb.trans (hb4.mono hzr)
            clear hown2 hown3 hown4 hg2 hg3 hg4
            go_wp2_with fail
            go_ret
            exact ⟨_, rfl, HF.out, hbw⟩
          · skip
            have r1 : (wr.alloc (.cells #[] 3)).ownsRow wr.heap.size 3 1 (.slice (some ⟨wr.heap.size, 0, none⟩) 0 0) 0 [] := by simpa using World.ownsRow_made wr (base := wr.heap.size) (e := 3) (size := 1) #[] 0 (by simp) (Nat.zero_le _) rfl
            go_wp2_with (at_builtin; refine wpList_append_own _ rfl _ _ 48 rfl wr.heap.size 3 ii (.int .i64 0) 1 8 Tryd.underlying48 hii iz0 iz1 iz2 rfl (by decide) _ 0 [] rfl r1 ⟨g, 0, none⟩ k cap (fltV P x) rfl ?_ ?_ ?_ ?_ ?_ ?_ ?_)
            · simp [fltV, HK.out]
            · intro j u hu
              rw [Addr.add_lit, Nat.zero_add]
              refine (World.cell?_alloc_lt _ _ _ l0).trans ((hb.cell (p := ⟨g, j, none⟩) hgl).trans (HC.out j u ?_))
              rw [(fltV_split P (Nat.le_of_lt hx)).1, List.getElem?_append_left]
              · exact hu
              · exact (List.getElem?_eq_some_iff.1 hu).1
            · intro u hu
              obtain ⟨i, _, rfl⟩ := List.mem_map.1 hu
              rfl
            · unfold maxLen; omega
            · omega
            · simp
            intro v2 w2 hown2 hg2 _
            have hb2 : Below wr.heap.size wr w2 := ((Below.refl wr.heap.size wr).alloc (Nat.le_refl _) _).grown hg2 (by simp) (fun q hq => (r1.lt q hq).1)
            have hz2 := hb2.size
            obtain ⟨B2, c2, rfl⟩ := row_form hown2
            go_wp2_with (at_builtin; refine wpList_append_own _ rfl _ _ 48 rfl wr.heap.size 3 ii (.int .i64 0) 1 8 Tryd.underlying48 hii iz0 iz1 iz2 rfl (by decide) _ k (fltV P x) rfl (hown2.alloc _) ⟨w2.heap.size, 0, none⟩ 1 1 [.int .i64 (x : Nat)] rfl rfl ?_ ?_ ?_ ?_ ?_ ?_)
            · intro i u hu
              match i, hu with
              | 0, hu => simp at hu; subst hu; simp [go_sem, Addr.add]
            · intro u hu; simp at hu; subst hu; rfl
            · unfold maxLen; omega
            · omega
            · simp; omega
            intro v3 w3 hown3 hg3 _
            have hb3 : Below wr.heap.size wr w3 := (hb2.alloc hz2 _).grown hg3 (by simp; omega) (fun q hq => (hown2.lt q hq).1)
            have hz3 := hb3.size
            obtain ⟨B3, c3, rfl⟩ := row_form hown3
            have hsl : ∀ W, (Instr.slice 48 (.slice (some ⟨g, 0, none⟩) n cap) (some (.int .i64 (k : Nat))) none none).run Tryd.prog W = .ok (.slice (some ⟨g, k, none⟩) (n - k) (cap - k)) W := fun W => by
              simp [go_sem, Tryd.underlying48, hck]
              omega
            go_wp2_with (at_builtin; refine wpList_append_own _ rfl _ _ 48 rfl wr.heap.size 3 ii (.int .i64 0) 1 8 Tryd.underlying48 hii iz0 iz1 iz2 rfl (by decide) _ _ _ rfl hown3 ⟨g, k, none⟩ _ _ ((fltR P x N).map (fun (i : Nat) => Value.int .i64 (i : Int))) rfl ?_ ?_ ?_ ?_ ?_ ?_ ?_)
            · simp
              have := HN.out
              have := HK.out
              omega
            · intro j u hu
              rw [Addr.add_lit]
              refine (hb3.cell (p := ⟨g, k + j, none⟩) l0).trans ((hb.cell (p := ⟨g, k + j, none⟩) hgl).trans (HC.out (k + j) u ?_))
              rw [(fltV_split P (Nat.le_of_lt hx)).1, List.getElem?_append_right (by simp [fltV, HK.out])]
              have e : (fltV P x).length = k := by simp [fltV, HK.out]
              rw [e, Nat.add_sub_cancel_left]
              exact hu
            · intro u hu
              obtain ⟨i, _, rfl⟩ := List.mem_map.1 hu
              rfl
            · unfold maxLen; omega
            · omega
            · omega
            intro v4 w4 hown4 hg4 _
            have hb4 : Below wr.heap.size wr w4 := hb3.grown hg4 hz3 (fun q hq => (hown3.lt q hq).1)
            have HF : Hid (PRowI w4 base v4 (orP P x) N) := by
              show PRowI _ _ _ _ _
              have e : (flt (orP P x) N).length = k + 1 + (n - k) := by
                rw [HO.out.2, HK.out]
                have := HN.out
                have := HK.out
                omega
              rw [PRowI, e, HO.out.1]
              have h5 := hown4.mono (show base ≤ wr.heap.size by omega)
              simpa using h5
            have hbw : Below w.heap.size w w4 := hb.trans (hb4.mono hzr)
            clear hown2 hown3 hown4 hg2 hg3 hg4
            go_wp2_with fail
            go_ret
            exact ⟨_, rfl, HF.out, hbw⟩

end Go.Proofs.YtpckhpkbdanjoaaDoor

/-
  An append of one row of the call's own onto another.-/
namespace Go.Proofs.YtpckhpkbdanjoaaDoor
set_option linter.unusedVariables false
set_option linter.unusedSimpArgs false
open Go.RowKit

theorem run_append_rows {P : Program} (w : World) (base base2 : Nat) (t ty e : TypeId) (i : TypeInfo) (z : Value) (size bytes : Nat) (ht : P.underlying t = some (.slice e)) (hi : P.info? e = some i) (hz : i.zero = some z)
    (hsize : i.size = size) (hby : i.bytes = bytes) (hzs : z.cells.size = size) (hsz : 0 < size)
    (v u : Value) (n m : Nat) (xs ys : List Value) (hown : w.ownsRow base e size v n xs) (hown2 : w.ownsRow base2 e size u m ys) (h1 : ∀ u ∈ ys, u.oneCell' = true)
    (h63 : n + m ≤ maxLen) (hbytes : (n + m) * bytes ≤ 140737488355328) (hbase : base ≤ w.heap.size) :
    ∃ v' w', (Builtin.append_ #[t, t] ty #[v, u]).run P w = .ok v' w' ∧ w'.ownsRow base e size v' (n + m) (xs ++ ys) ∧ w.grownBy w' v.ownBlock := by
  rcases hown2.2 with ⟨rfl, rfl⟩ | ⟨g, cap, cur, rfl, hbg, hg, hnc, hcm, hcs, htake⟩
  · have hy : ys = [] := List.eq_nil_of_length_eq_zero (by simpa using hown2.1)
    subst hy
    refine ⟨v, w, ?_, by simpa using hown, ⟨rfl, rfl, rfl, Nat.le_refl _, fun _ _ _ => rfl⟩⟩
    rcases hown.2 with ⟨rfl, rfl⟩ | ⟨g, cap, cur, rfl, hbg, hg, hnc, hcm, hcs, htake⟩
    · simp [Builtin.append_, run_underlying ht, sizeOf, typeInfo, hi, Builtin.lenOf, Builtin.firstCells, loadCells, loadCellsFrom]
    · simp [Builtin.append_, run_underlying ht, sizeOf, typeInfo, hi, Builtin.lenOf, Builtin.firstCells, loadCells, loadCellsFrom, storeCells, hnc]
  · obtain ⟨v', w', r1, r2, r3, _⟩ := run_append_own (P := P) w base t ty e i z size bytes ht hi hz hsize hby hzs hsz v n xs hown ⟨g, 0, none⟩ m cap ys hown2.1 (hown2.cells rfl) h1 h63 hbytes hbase
    exact ⟨v', w', r1, r2, r3⟩

end Go.Proofs.YtpckhpkbdanjoaaDoor

/-
  Walks: the reference puts a number into an increasing list, the list that is nil.-/
namespace Go.Proofs.YtpckhpkbdanjoaaDoor
set_option linter.unusedVariables false
set_option linter.unusedSimpArgs false
open Go.RowKit

theorem wpList_append_rows {P : Program} {ops : Array Oper} {rest : List Oper} {o : Oper} {a : Act} {w : World} {Q : Exit → Act → World → Prop} (hgd : o.guard = none) (s x : Operand) (t : TypeId)
    (ho : o.op = .call { callee := .builtin .append, args := #[s, x], argTypes := #[t, t] })
    (base base2 : Nat) (e : TypeId) (i : TypeInfo) (z : Value) (size bytes : Nat) (ht : P.underlying t = some (.slice e)) (hi : P.info? e = some i) (hz : i.zero = some z)
    (hsize : i.size = size) (hby : i.bytes = bytes) (hzs : z.cells.size = size) (hsz : 0 < size)
    (v u : Value) (n m : Nat) (xs ys : List Value) (hs : a.eval s = v) (hx : a.eval x = u) (hown : w.ownsRow base e size v n xs) (hown2 : w.ownsRow base2 e size u m ys) (h1 : ∀ u ∈ ys, u.oneCell' = true)
    (h63 : n + m ≤ maxLen) (hbytes : (n + m) * bytes ≤ 140737488355328) (hbase : base ≤ w.heap.size)
    (h : ∀ v' w', w'.ownsRow base e size v' (n + m) (xs ++ ys) → w.grownBy w' v.ownBlock → wpList P ops Q rest (a.put o.dst v') w') :
    wpList P ops Q (o :: rest) a w := by
  refine wpList_plain hgd fun K hK => ?_
  obtain ⟨v', w', hr, h2, h3⟩ := run_append_rows (P := P) w base base2 t o.type e i z size bytes ht hi hz hsize hby hzs hsz v u n m xs ys hown hown2 h1 h63 hbytes hbase
  unfold Oper.wp execOp
  simp only [ho, resolve, invoke, builtin, Sem.run_bind, Sem.run_pure, Result.andThen_ok, List.map_toArray, List.map_cons, List.map_nil, hs, hx, hr]
  exact hK _ _ (h v' w' h2 h3)

set_option maxRecDepth 100000 in
set_option maxHeartbeats 3200000 in
theorem l1Put_nil (P : Nat → Bool) (N x base : Nat) (w : World) (hn : (flt P N).length = 0) (hx : x < N) (hN : N ≤ 1000) (hb0 : base ≤ w.heap.size) :
    Calls Tryd.prog 90 #[.slice none 0 0, .int .i64 x] w fun e w' => ∃ v', e = .returned v' ∧ PRowI w' base v' (orP P x) N ∧ Below w.heap.size w w' := by
  obtain ⟨ii, hii, iz0, iz1, iz2⟩ := info_parts infoIntP
  have hp : P x = false := by
    cases h : P x with
    | false => rfl
    | true =>
      have h3 := (flt_head (p := P) (x := x) (n := N) hx).2 h
      rw [List.getElem?_eq_none (by omega)] at h3
      cases h3
  have HO := hide (fltV_or hp hx)
  have hrs := (fltV_split P (Nat.le_of_lt hx)).2
  have hl1 : (flt P x).length = 0 := by omega
  have hl2 : (fltR P x N).length = 0 := by omega
  have HE : Hid (fltV (orP P x) N = [.int .i64 (x : Nat)] ∧ (flt (orP P x) N).length = 1) := by
    refine ⟨?_, ?_⟩
    · rw [HO.out.1, fltV, List.eq_nil_of_length_eq_zero hl1, List.eq_nil_of_length_eq_zero hl2]; rfl
    · rw [HO.out.2, hl1, hl2]
  go_enter Tryd.func90, Tryd.ntmps90
  go_wp2_with fail
  go_loopg [5] 1 (fun gn i wr => 0 < gn ∧ i = .int .i64 0 ∧ Below w.heap.size w wr)
  case atStart => exact ⟨by omega, rfl, Below.refl _ _⟩
  case round =>
    obtain ⟨hgn, rfl, hb⟩ := hrel
    have hzr := hb.size
    have r1 : (wr.alloc (.cells #[] 3)).ownsRow wr.heap.size 3 1 (.slice (some ⟨wr.heap.size, 0, none⟩) 0 0) 0 [] := by simpa using World.ownsRow_made wr (base := wr.heap.size) (e := 3) (size := 1) #[] 0 (by simp) (Nat.zero_le _) rfl
    go_wp2_with (at_builtin; refine wpList_append_rows rfl _ _ 48 rfl wr.heap.size wr.heap.size 3 ii (.int .i64 0) 1 8 Tryd.underlying48 hii iz0 iz1 iz2 rfl (by decide) _ _ 0 0 [] [] rfl rfl r1 (World.ownsRow_nil _ _ _ _) ?_ ?_ ?_ ?_ ?_)
    · simp
    · unfold maxLen; omega
    · omega
    · simp
    intro v2 w2 hown2 hg2
    have hb2 : Below wr.heap.size wr w2 := ((Below.refl wr.heap.size wr).alloc (Nat.le_refl _) _).grown hg2 (by simp) (fun q hq => (r1.lt q hq).1)
    have hz2 := hb2.size
    obtain ⟨B2, c2, rfl⟩ := row_form hown2
    go_wp2_with (at_builtin; refine wpList_append_own _ rfl _ _ 48 rfl wr.heap.size 3 ii (.int .i64 0) 1 8 Tryd.underlying48 hii iz0 iz1 iz2 rfl (by decide) _ _ [] rfl (hown2.alloc _) ⟨w2.heap.size, 0, none⟩ 1 1 [.int .i64 (x : Nat)] rfl rfl ?_ ?_ ?_ ?_ ?_ ?_)
    · intro i u hu
      match i, hu with
      | 0, hu => simp at hu; subst hu; simp [go_sem, Addr.add]
    · intro u hu; simp at hu; subst hu; rfl
    · unfold maxLen; omega
    · omega
    · simp; omega
    intro v3 w3 hown3 hg3 _
    have hb3 : Below wr.heap.size wr w3 := (hb2.alloc hz2 _).grown hg3 (by simp; omega) (fun q hq => (hown2.lt q hq).1)
    have hz3 := hb3.size
    obtain ⟨B3, c3, rfl⟩ := row_form hown3
    have hsl : ∀ W, (Instr.slice 48 (.slice none 0 0) (some (.int .i64 0)) none none).run Tryd.prog W = .ok (.slice none 0 0) W := fun W => by
      simp [go_sem, Tryd.underlying48]
    go_wp2_with (at_builtin; refine wpList_append_rows rfl _ _ 48 rfl wr.heap.size wr.heap.size 3 ii (.int .i64 0) 1 8 Tryd.underlying48 hii iz0 iz1 iz2 rfl (by decide) _ _ _ 0 _ [] rfl rfl hown3 (World.ownsRow_nil _ _ _ _) ?_ ?_ ?_ ?_ ?_)
    · simp
    · unfold maxLen; omega
    · omega
    · omega
    intro v4 w4 hown4 hg4
    have hb4 : Below wr.heap.size wr w4 := hb3.grown hg4 hz3 (fun q hq => (hown3.lt q hq).1)
    have HF : Hid (PRowI w4 base v4 (orP P x) N) := by
      show PRowI _ _ _ _ _
      rw [PRowI, HE.out.1, HE.out.2]
      have h5 := hown4.mono (show base ≤ wr.heap.size by omega)
      simpa using h5
    have hbw : Below w.heap.size w w4 := hb.trans (hb4.mono hzr)
    clear hown2 hown3 hown4 hg2 hg3 hg4
    go_wp2_with fail
    go_ret
    exact ⟨_, rfl, HF.out, hbw⟩
theorem l1Put_any (P : Nat → Bool) (N x base : Nat) (v : Value) (w : World) (hv : PRowI w base v P N) (hx : x < N) (hN : N ≤ 1000) (hb0 : base ≤ w.heap.size) :
    Calls Tryd.prog 90 #[v, .int .i64 x] w fun e w' => ∃ v', e = .returned v' ∧ PRowI w' base v' (orP P x) N ∧ Below w.heap.size w w' := by
  rcases hv.2 with ⟨h0, h1⟩ | ⟨g, cap, cur, h0, _⟩
  · subst h0
    exact l1Put_nil P N x base w h1 hx hN hb0
  · subst h0
    exact l1Put_some P N x base _ g cap w rfl hv hx hN hb0

end Go.Proofs.YtpckhpkbdanjoaaDoor

/-
  Walks: the reference's list of the open cells on a way or next to it.-/
namespace Go.Proofs.YtpckhpkbdanjoaaDoor
set_option linter.unusedVariables false
set_option linter.unusedSimpArgs false
open Go.RowKit

theorem nflt : ∀ n, flt (fun _ => false) n = []
  | 0 => rfl
  | n + 1 => by rw [flt, nflt n]; rfl
set_option maxRecDepth 100000 in
set_option maxHeartbeats 3200000 in
theorem seNear_any (F : Nat → ByteArray) (n : Nat) (p q : Nat → Int) (m lo hi lo2 hi2 : Nat) (v u : Value) (w : World) (hv : Sl w lo hi 1 v n (sC F)) (hhi : hi ≤ w.heap.size) (hu : Sl w lo2 hi2 2 u m (iiC p q)) (hhi2 : hi2 ≤ w.heap.size) (hg : flB F n = true) (hm : m ≤ 1000) (hop : ∀ t, t < m → opB F n (p t) (q t) = true) :
    Calls Tryd.prog 55 #[v, u] w fun e w' => ∃ v', e = .returned v' ∧ PRowI w' w.heap.size v' (nrF F n p q m) (n * (F 0).size) ∧ Below w.heap.size w w' := by
  obtain ⟨A, cap, rfl, hcap, hA⟩ := hu.open_
  have HG := hide hg
  have HV := hide hv
  have HOP : Hid (∀ t, t < m → opB F n (p t) (q t) = true) := hop
  clear hg hop hv
  go_enter Tryd.func55, Tryd.ntmps55
  go_wp2_with fail
  have hwW : n * (F 0).size ≤ 1000 := by
    have h := HG.out
    obtain ⟨g1, g2, g3, g4, g5, _⟩ := flB_facts h
    have := Nat.mul_le_mul g2 g4
    omega
  go_loopg [5, 13] (m + 1) (fun gn a b wr => ∃ t : Nat, t ≤ m ∧ m - t < gn ∧ b = .int .i64 t ∧ Hid (PRowI wr w.heap.size a (nrF F n p q t) (n * (F 0).size)) ∧ Hid (Below w.heap.size w wr))
  case atStart => exact ⟨0, by omega, by omega, rfl, (by show PRowI _ _ _ _ _; rw [PRowI, fltV, nrF, nflt]; exact World.ownsRow_nil _ _ _ _), Below.refl _ _⟩
  case round =>
    obtain ⟨t, ht, hgt, rfl, HR, HB⟩ := hrel
    have hz := HB.out.size
    by_cases htm : t < m
    · have d1 : decide ((t : Int) < (m : Int)) = true := decide_eq_true (by omega)
      have d1' : decide (t < m) = true := decide_eq_true htm
      obtain ⟨blk, off, rfl, h1, h2, h3⟩ := hA (by omega)
      have l0 : blk < w.heap.size := by omega
      have c0 : wr.cell? ⟨blk, off + t * 2, none⟩ = some (.int .i64 (p t)) := (HB.out.cell (p := ⟨blk, off + t * 2, none⟩) l0).trans (by simpa [iiC] using h3 t 0 htm (by omega))
      have c1 : wr.cell? ⟨blk, off + t * 2 + 1, none⟩ = some (.int .i64 (q t)) := (HB.out.cell (p := ⟨blk, off + t * 2 + 1, none⟩) l0).trans (by simpa [iiC] using h3 t 1 htm (by omega))
      clear hA h3 hu
      go_wp2_with fail
      obtain ⟨bb, hbb⟩ : ∃ bb, bb = wr.heap.size := ⟨_, rfl⟩
      rw [← hbb]
      have HBB := hide hbb
      clear hbb
      go_loopg [5, 8] 4 (fun gn a b wr' => ∃ j : Nat, j ≤ 3 ∧ 3 - j < gn ∧ b = .int .i64 ((j : Int) - 1) ∧ Hid (PRowI wr' w.heap.size a (nrR F n (nrF F n p q t) (p t) (q t) j) (n * (F 0).size)) ∧ Hid (Below w.heap.size w wr') ∧ Hid (Bx2 wr' bb (p t) (q t)))
      case atStart => exact ⟨0, by omega, by omega, rfl, row_below HR.out ((Below.refl _ _).alloc (Nat.le_refl _) _) (Nat.le_refl _), HB.out.alloc (by omega) _, (by rw [HBB.out]; exact Bx2.new _ _ _)⟩
      case round =>
        obtain ⟨j, hj, hgj, rfl, HR2, HB2, HX2⟩ := hrel
        by_cases hj3 : j < 3
        · have d2 : decide (((j : Int) - 1) ≤ 1) = true := decide_eq_true (by omega)
          have hz2 := HB2.out.size
          obtain ⟨x0, x1, xf, xl⟩ := HX2.out
          go_wp2_with fail
          go_loopg [5, 9] 4 (fun gn a b wr3 => ∃ k : Nat, k ≤ 3 ∧ 3 - k < gn ∧ b = .int .i64 ((k : Int) - 1) ∧ Hid (PRowI wr3 w.heap.size a (nrK F n (nrR F n (nrF F n p q t) (p t) (q t) j) (p t + ((j : Int) - 1)) (q t) k) (n * (F 0).size)) ∧ Hid (Below w.heap.size w wr3) ∧ Hid (Bx2 wr3 bb (p t) (q t)))
          case atStart => exact ⟨0, by omega, by omega, rfl, HR2.out, HB2.out, HX2.out⟩
          case round =>
            obtain ⟨k, hk, hgk, rfl, HR3, HB3, HX3⟩ := hrel
            have hz3 := HB3.out.size
            clear x0 x1 xf xl
            by_cases hk3 : k < 3
            · have d3 : decide (((k : Int) - 1) ≤ 1) = true := decide_eq_true (by omega)
              obtain ⟨x0, x1, xf, xl⟩ := HX3.out
              obtain ⟨b1, b2, _⟩ := opB_iff.1 (HOP.out t htm)
              obtain ⟨g1, g2, g3, g4, g5, _⟩ := flB_facts HG.out
              have z1 : IntKind.i64.wrap (p t + ((j : Int) - 1)) = p t + ((j : Int) - 1) := IntWalk.i64_in _ (by omega)
              have z2 : IntKind.i64.wrap (q t + ((k : Int) - 1)) = q t + ((k : Int) - 1) := IntWalk.i64_in _ (by omega)
              clear b1 b2 g1 g2 g3 g4 g5
              go_wp2_with fail
              refine (seOpen_any F n (p t + ((j : Int) - 1)) (q t + ((k : Int) - 1)) lo hi _ _ (HV.out.below (B := w.heap.size) ?_ hhi) ?_ HG.out).mono ?_
              · exact HB3.out.alloc hz3 _
              · simp; omega
              rintro e w4 ⟨rfl, hb4⟩
              have hz4 := hb4.size
              simp at hz4
              have HX4 := hide ((Bx2.new wr (p t + ((j : Int) - 1)) (q t + ((k : Int) - 1))).below hb4 (by simp))
              have hbw : Below wr.heap.size wr w4 := ((Below.refl wr.heap.size wr).alloc (Nat.le_refl _) _).trans (hb4.mono (by simp))
              have HB4 : Hid (Below w.heap.size w w4) := HB3.out.trans (hbw.mono hz3)
              have HR4 : Hid (PRowI w4 w.heap.size u5 (nrK F n (nrR F n (nrF F n p q t) (p t) (q t) j) (p t + ((j : Int) - 1)) (q t) k) (n * (F 0).size)) := row_below HR3.out hbw (Nat.le_refl _)
              have HY4 : Hid (Bx2 w4 bb (p t) (q t)) := HX3.out.below hbw HX3.out.lt
              clear x0 x1 xf xl hbw hb4
              cases eo : opB F n (p t + ((j : Int) - 1)) (q t + ((k : Int) - 1)) with
              | false =>
                have HN : Hid (nrK F n (nrR F n (nrF F n p q t) (p t) (q t) j) (p t + ((j : Int) - 1)) (q t) (k + 1) = nrK F n (nrR F n (nrF F n p q t) (p t) (q t) j) (p t + ((j : Int) - 1)) (q t) k) := by show _ = _; rw [nrK, if_neg (by rw [eo]; simp)]
                go_wp2_with fail
                go_roundg (3 - k)
                case measure => omega
                case rel => exact ⟨k + 1, by omega, by omega, by go_num, (by show PRowI _ _ _ _ _; rw [HN.out]; exact HR4.out), HB4.out, HY4.out⟩
              | true =>
                have HEO := hide eo
                have HN : Hid (nrK F n (nrR F n (nrF F n p q t) (p t) (q t) j) (p t + ((j : Int) - 1)) (q t) (k + 1) = orP (nrK F n (nrR F n (nrF F n p q t) (p t) (q t) j) (p t + ((j : Int) - 1)) (q t) k) (ixF F (p t + ((j : Int) - 1), q t + ((k : Int) - 1)))) := by show _ = _; rw [nrK, if_pos eo]
                obtain ⟨x0, x1, xf, xl⟩ := HX4.out
                clear eo
                go_wp2_with fail
                refine (seIndex_any F n (p t + ((j : Int) - 1)) (q t + ((k : Int) - 1)) lo hi _ _ (HV.out.below (B := w.heap.size) HB4.out hhi) (by omega) HG.out HEO.out).mono ?_
                rintro e w5 ⟨rfl, hb5⟩
                have hz5 := hb5.size
                have HB5 : Hid (Below w.heap.size w w5) := HB4.out.trans (hb5.mono (by omega))
                have HY5 : Hid (Bx2 w5 bb (p t) (q t)) := HY4.out.below hb5 HY4.out.lt
                have hr5 := row_below HR4.out hb5 (Nat.le_refl _)
                clear x0 x1 xf xl
                go_wp2_with fail
                refine (l1Put_any _ _ (ixF F (p t + ((j : Int) - 1), q t + ((k : Int) - 1))) w.heap.size u5 w5 hr5 (ix_lt (p := (_, _)) HEO.out) hwW HB5.out.size).mono ?_
                rintro e w6 ⟨v6, rfl, hr6, hb6⟩
                have HR6 := hide hr6
                have HB6 : Hid (Below w.heap.size w w6) := HB5.out.trans (hb6.mono HB5.out.size)
                have HY6 : Hid (Bx2 w6 bb (p t) (q t)) := HY5.out.below hb6 HY5.out.lt
                clear hr5 hr6 hb6
                go_wp2_with fail
                go_roundg (3 - k)
                case measure => omega
                case rel => exact ⟨k + 1, by omega, by omega, by go_num, (by show PRowI _ _ _ _ _; rw [HN.out]; exact HR6.out), HB6.out, HY6.out⟩
            · have d3 : decide (((k : Int) - 1) ≤ 1) = false := decide_eq_false (by omega)
              obtain rfl : k = 3 := by omega
              go_wp2_with fail
              go_roundg (3 - j)
              case measure => omega
              case rel => exact ⟨j + 1, by omega, by omega, by go_num, HR3.out, HB3.out, HX3.out⟩
        · have d2 : decide (((j : Int) - 1) ≤ 1) = false := decide_eq_false (by omega)
          obtain rfl : j = 3 := by omega
          go_wp2_with fail
          go_roundg (m - t)
          case measure => omega
          case rel => exact ⟨t + 1, by omega, by omega, by go_num, HR2.out, HB2.out⟩
    · have d1 : decide ((t : Int) < (m : Int)) = false := decide_eq_false (by omega)
      have d1' : decide (t < m) = false := decide_eq_false htm
      obtain rfl : t = m := by omega
      go_wp2_with fail
      go_ret
      exact ⟨_, rfl, HR.out, HB.out⟩

end Go.Proofs.YtpckhpkbdanjoaaDoor
