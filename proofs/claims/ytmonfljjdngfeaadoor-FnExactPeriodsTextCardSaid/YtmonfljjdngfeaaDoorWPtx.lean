/-
  Walks: the text of periods: the program's and the reference's.
-/
import Derived.Test.YtmonfljjdngfeaaDoorWPer3
import Derived.Test.YtmonfljjdngfeaaDoorWItoa
import Derived.Test.YtmonfljjdngfeaaDoorPFlt
import Derived.Shelf.Strings.OnBuilder
import Derived.BigRegion
import Derived.Deep.LoopGhost
import Derived.Test.YtmonfljjdngfeaaDoorMix
namespace Go.Proofs
open Go.RowKit Go.Shelf
shelf_lay Lays.n156 Nm 156 at Tryd as YtmonfljjdngfeaaDoor.laysJoin
theorem YtmonfljjdngfeaaDoor.extraJoin : Builder.Extra Tryd.prog YtmonfljjdngfeaaDoor.laysJoin_ren where
  sizeBuilder := by kernel_rfl
  liesBuilder := by kernel_rfl
  t5 := Tryd.underlying5
  a5 := Tryd.isAgg5
  z5 := Tryd.sizeOf5
  v5 := Tryd.zeroValue5
  infoByte := by kernel_rfl
  cellsByte := by kernel_rfl
  sizeByte := by kernel_rfl
  neB5 := by decide
end Go.Proofs
namespace Go.Proofs.YtmonfljjdngfeaaDoor
set_option linter.unusedVariables false
set_option linter.unusedSimpArgs false
open Go.RowKit Go.Shelf

/-- The text of the first periods. -/
def ptx (c : Nat → ByteArray) (a b : Nat → Int) : Nat → ByteArray
  | 0 => ⟨#[]⟩
  | k + 1 => ptx c a b k ++ (c k ++ ⟨#[58]⟩ ++ (dD (a k).toNat ++ ⟨#[45]⟩ ++ dD (b k).toNat) ++ ⟨#[59]⟩)
def ptS (c : Nat → ByteArray) (a b : Nat → Int) (n : Nat) : ByteArray := if pdB c a b n = true then ptx c a b n else ⟨#[]⟩
theorem per_bd {c : Nat → ByteArray} {a b : Nat → Int} {n k : Nat} (h : pdB c a b n = true) (hk : k < n) : (c k).size ≤ 6 ∧ (∃ x : Nat, a k = x ∧ x ≤ 9999) ∧ ∃ y : Nat, b k = y ∧ y ≤ 9999 := by
  have h1 := ((pd_facts h).2 k hk).1
  have h2 := perB_iff.1 h1
  have h3 : (c k).size ≤ 6 := by
    have := h2.1
    simp only [nameB, Bool.and_eq_true, inB_iff] at this
    omega
  exact ⟨h3, ⟨(a k).toNat, by omega, by omega⟩, ⟨(b k).toNat, by omega, by omega⟩⟩
theorem ptx_size {c : Nat → ByteArray} {a b : Nat → Int} {n : Nat} (h : pdB c a b n = true) : ∀ k, k ≤ n → (ptx c a b k).size ≤ 30000 * k
  | 0, _ => Nat.zero_le _
  | k + 1, hk => by
    have h1 := ptx_size h k (by omega)
    obtain ⟨h2, ⟨x, hx, hx'⟩, y, hy, hy'⟩ := per_bd h (show k < n by omega)
    have h3 := dD_size x
    have h4 := dD_size y
    rw [ptx, hx, hy]
    simp only [ByteArray.size_append, Int.toNat_natCast]
    have e1 : (⟨#[58]⟩ : ByteArray).size = 1 := rfl
    have e2 : (⟨#[45]⟩ : ByteArray).size = 1 := rfl
    have e3 : (⟨#[59]⟩ : ByteArray).size = 1 := rfl
    omega
theorem infoStrJ : (Tryd.prog.info? 9).map (fun i => (i.zero, i.size, i.bytes)) = some (some (.string ⟨#[]⟩), 1, 16) := by kernel_rfl
def jL (x y k : Nat) : List Value := [.string (dD x), .string (dD y)].take k
theorem jL_step {x y k : Nat} (h : k < 2) : jL x y k ++ [.string (dD (if k = 0 then x else y))] = jL x y (k + 1) := by
  have : k = 0 ∨ k = 1 := by omega
  rcases this with rfl | rfl <;> rfl
theorem Join_two (x y g cap : Nat) (w : World) (hg : g < w.heap.size) (hcap : 2 ≤ cap) (c0 : w.cell? ⟨g, 0, none⟩ = some (.string (dD x))) (c1 : w.cell? ⟨g, 1, none⟩ = some (.string (dD y))) (hx : x ≤ 100000) (hy : y ≤ 100000) :
    Calls Tryd.prog 22 #[.slice (some ⟨g, 0, none⟩) 2 cap, .string ⟨#[45]⟩] w fun e w' => e = .returned (.string (dD x ++ ⟨#[45]⟩ ++ dD y)) ∧ Below w.heap.size w w' := by
  have s1 := dD_size x
  have s2 := dD_size y
  have e1 : Lib.join ([dD x, dD y].map (·.data.toList)) (⟨#[45]⟩ : ByteArray).data.toList = (dD x ++ ⟨#[45]⟩ ++ dD y).data.toList := by
    simp [Lib.join_cons, Lib.joinTail, ByteArray.data_append]
  have h := Any.strings_Join YtmonfljjdngfeaaDoor.laysJoin YtmonfljjdngfeaaDoor.extraJoin g 0 cap [dD x, dD y] ⟨#[45]⟩ w (fun j z hj => by
    match j, hj with
    | 0, hj => cases hj; simpa using c0
    | 1, hj => cases hj; simpa using c1) hg (by simp) (by simpa using hcap) (by
    rw [e1]
    have : (dD x ++ ⟨#[45]⟩ ++ dD y).data.toList.length = (dD x ++ ⟨#[45]⟩ ++ dD y).size := Array.length_toList
    rw [this]
    simp only [ByteArray.size_append]
    have e2 : (⟨#[45]⟩ : ByteArray).size = 1 := rfl
    omega)
  refine h.mono fun e w' ⟨he, hb⟩ => ⟨?_, hb⟩
  rw [he, e1]
set_option maxRecDepth 100000 in
set_option maxHeartbeats 1600000 in
theorem joinNumbers_two (x y g : Nat) (w : World) (hx : x ≤ 100000) (hy : y ≤ 100000) (ht : Tab w) (hg : g < w.heap.size) (c0 : w.cell? ⟨g, 0, none⟩ = some (.int .i64 x)) (c1 : w.cell? ⟨g, 1, none⟩ = some (.int .i64 y)) :
    Calls Tryd.prog 14 #[.string ⟨#[45]⟩, .slice (some ⟨g, 0, none⟩) 2 2] w fun e w' => e = .returned (.string (dD x ++ ⟨#[45]⟩ ++ dD y)) ∧ Below w.heap.size w w' := by
  obtain ⟨i0, hi0, iz0, iz1, iz2⟩ := info_parts infoStrJ
  go_enter Tryd.func14, Tryd.ntmps14
  go_wp2_with fail
  go_loopg [5, 10] 3 (fun gn ws iv wr => ∃ (k : Nat) (B : Option Addr) (cp : Nat), k ≤ 2 ∧ 2 - k < gn ∧ ws = .slice B k cp ∧ iv = .int .i64 k ∧ Hid (wr.ownsRow w.heap.size 9 1 (.slice B k cp) k (jL x y k)) ∧ Below w.heap.size w wr)
  case atStart => exact ⟨0, none, 0, by omega, by omega, rfl, rfl, World.ownsRow_nil _ _ _ _, Below.refl _ _⟩
  case round =>
    obtain ⟨k, B, cp, hk, hgn, rfl, rfl, hown, hb⟩ := hrel
    have hzr := hb.size
    by_cases hkn : k < 2
    · obtain ⟨m, hm⟩ : ∃ m, m = if k = 0 then x else y := ⟨_, rfl⟩
      have hm' : m ≤ 100000 := by rw [hm]; split <;> omega
      have ck : wr.cell? ⟨g, k, none⟩ = some (.int .i64 (m : Nat)) := by
        rw [(hb.cell (p := ⟨g, k, none⟩) hg), hm]
        have : k = 0 ∨ k = 1 := by omega
        rcases this with rfl | rfl
        · exact c0
        · exact c1
      have lg : g < wr.heap.size := by omega
      have HM := hide hm
      clear hm
      go_wp2_with fail
      refine (Itoa_any m _ (by omega) (ht.below hb (Nat.le_refl _))).mono ?_
      rintro e w1 ⟨rfl, hb1⟩
      have hz1 := hb1.size
      have hown1 := row_below hown.out hb1 (Nat.le_refl _)
      have hb01 : Below w.heap.size w w1 := hb.trans (hb1.mono hzr)
      go_wp2_with (at_builtin; refine wpList_append_own _ rfl _ _ 44 rfl w.heap.size 9 i0 (.string ⟨#[]⟩) 1 16 Tryd.underlying44 hi0 iz0 iz1 iz2 rfl (by decide) _ _ _ rfl (hown1.alloc _) ⟨w1.heap.size, 0, none⟩ 1 1 [.string (dD m)] rfl rfl ?_ ?_ ?_ ?_ ?_ ?_)
      · intro i u hu
        match i, hu with
        | 0, hu => simp at hu; subst hu; simp [go_sem, Addr.add]
      · intro u hu; simp at hu; subst hu; rfl
      · unfold maxLen; omega
      · omega
      · simp; omega
      intro v' w2 hown2 hg2 _
      have hb2 : Below w.heap.size w w2 := (hb01.alloc (by omega) _).grown hg2 (by simp; omega) (fun g hg => (hown1.lt g hg).1)
      obtain ⟨B2, cp2, rfl⟩ := row_form hown2
      have hown3 : Hid (w2.ownsRow w.heap.size 9 1 (.slice B2 (k + 1) cp2) (k + 1) (jL x y (k + 1))) := by
        have h := hown2
        rw [HM.out, jL_step hkn] at h
        exact h
      clear hown1 hown2 hown hg2
      go_wp2_with fail
      go_roundg (2 - k)
      case measure => omega
      case rel => exact ⟨k + 1, B2, cp2, by omega, by omega, rfl, by go_num, hown3, hb2⟩
    · obtain rfl : k = 2 := by omega
      rcases hown.out.2 with ⟨_, h0⟩ | ⟨g2, cap2, cur, h0, hbg, hh, hnc, _⟩
      · cases h0
      · cases h0
        have d0 := hown.out.cellAt 0 (by omega)
        have d1 := hown.out.cellAt 1 (by omega)
        have hl := hown.out.lt g2 rfl
        have HD0 := hide (d0.trans rfl : wr.cell? ⟨g2, 0, none⟩ = some (.string (dD x)))
        have HD1 := hide (d1.trans rfl : wr.cell? ⟨g2, 1, none⟩ = some (.string (dD y)))
        clear d0 d1
        go_wp2_with fail
        refine (Join_two x y g2 _ _ hl.2 hnc HD0.out HD1.out hx hy).mono ?_
        rintro e w1 ⟨rfl, hb1⟩
        have hz1 := hb1.size
        go_wp2_with fail
        go_ret
        exact ⟨rfl, hb.trans (hb1.mono hzr)⟩
set_option maxRecDepth 100000 in
set_option maxHeartbeats 3200000 in
theorem PeriodsText_spec (c : Nat → ByteArray) (a b : Nat → Int) (n lo hi : Nat) (v : Value) (w : World) (hv : Sl w lo hi 3 v n (siiC c a b)) (hhi : hi ≤ w.heap.size) (hf : pfits c n) :
    Calls Tryd.prog 5 #[v] w fun e w' => e = .returned (.tuple #[.string (ptS c a b n), .bool (pdB c a b n)]) ∧ Below w.heap.size w w' := by
  obtain ⟨A, cap, rfl, hcap, hA⟩ := hv.open_
  cases e1 : pdB c a b n with
  | false =>
    have HX : Hid (ptS c a b n = ⟨#[]⟩) := by show _ = _; rw [ptS, e1]; rfl
    go_enter Tryd.func5, Tryd.ntmps5
    go_wp2_with fail
    refine (rfGood_any c a b n lo hi _ _ (hv.below (B := w.heap.size) (by repeat (first | (with_reducible exact Below.refl _ _) | (with_reducible refine below_ov ?_ ?_) | (with_reducible refine Below.setCell ?_ ?_ _) | (with_reducible refine Below.alloc ?_ ?_ _) | (with_reducible refine Below.drew ?_) | (with_reducible refine below_drewN ?_ _) | (refine Below.trans ?_ (Below.mono ‹Below _ _ _› (by first | omega | (simp; done) | (simp; omega)))) | exact Below.refl _ _ | omega | (focus (simp; done)) | (focus (simp; omega)))) hhi) (by first | omega | (simp; done) | (simp; omega)) hf).mono ?_
    rintro e w1 ⟨rfl, hb1⟩
    have hz1 := hb1.size
    rw [e1]
    go_wp2_with fail
    go_ret2
    rw [HX.out]
    exact ⟨rfl, (by repeat (first | (with_reducible exact Below.refl _ _) | (with_reducible refine below_ov ?_ ?_) | (with_reducible refine Below.setCell ?_ ?_ _) | (with_reducible refine Below.alloc ?_ ?_ _) | (with_reducible refine Below.drew ?_) | (with_reducible refine below_drewN ?_ _) | (refine Below.trans ?_ (Below.mono ‹Below _ _ _› (by first | omega | (simp; done) | (simp; omega)))) | exact Below.refl _ _ | omega | (focus (simp; done)) | (focus (simp; omega))))⟩
  | true =>
    have HX : Hid (ptS c a b n = ptx c a b n) := by show _ = _; rw [ptS, e1]; rfl
    have HG := hide e1
    have hn12 := (pd_facts e1).1
    go_enter Tryd.func5, Tryd.ntmps5
    go_wp2_with fail
    refine (rfGood_any c a b n lo hi _ _ (hv.below (B := w.heap.size) (by repeat (first | (with_reducible exact Below.refl _ _) | (with_reducible refine below_ov ?_ ?_) | (with_reducible refine Below.setCell ?_ ?_ _) | (with_reducible refine Below.alloc ?_ ?_ _) | (with_reducible refine Below.drew ?_) | (with_reducible refine below_drewN ?_ _) | (refine Below.trans ?_ (Below.mono ‹Below _ _ _› (by first | omega | (simp; done) | (simp; omega)))) | exact Below.refl _ _ | omega | (focus (simp; done)) | (focus (simp; omega)))) hhi) (by first | omega | (simp; done) | (simp; omega)) hf).mono ?_
    rintro e w1 ⟨rfl, hb1⟩
    have hz1 := hb1.size
    rw [e1]
    clear e1
    go_wp2_with fail
    go_loopg [4, 12] (n + 1) (fun gn sv iv wr => ∃ k : Nat, k ≤ n ∧ n - k < gn ∧ sv = .string (ptx c a b k) ∧ iv = .int .i64 k ∧ Below w.heap.size w wr)
    case atStart => exact ⟨0, by omega, by omega, rfl, rfl, hb1⟩
    case round =>
      obtain ⟨k, hk, hgn, rfl, rfl, hb⟩ := hrel
      have hzr := hb.size
      by_cases hkn : k < n
      · obtain ⟨blk, off, rfl, h1, h2, h3⟩ := (hA.below hb (by omega)) (by omega)
        obtain ⟨hs6, ⟨x, hx, hx'⟩, y, hy, hy'⟩ := per_bd HG.out hkn
        have c0 : wr.cell? ⟨blk, off + k * 3, none⟩ = some (.string (c k)) := h3 k 0 hkn (by omega)
        have c1 : wr.cell? ⟨blk, off + k * 3 + 1, none⟩ = some (.int .i64 x) := by rw [← hx]; exact h3 k 1 hkn (by omega)
        have c2 : wr.cell? ⟨blk, off + k * 3 + 2, none⟩ = some (.int .i64 y) := by rw [← hy]; exact h3 k 2 hkn (by omega)
        have l0 : blk < wr.heap.size := by omega
        clear h3 hA
        have sx := dD_size x
        have sy := dD_size y
        have ps := ptx_size HG.out k hk
        have x1 : ¬ 9223372036854775807 < (c k).size + 1 := by omega
        have x2 : ¬ 9223372036854775807 < (c k).size + 1 + (dD x).size := by omega
        have x3 : ¬ 9223372036854775807 < (c k).size + 1 + (dD x).size + 1 := by omega
        have x4 : ¬ 9223372036854775807 < (c k).size + 1 + (dD x).size + 1 + (dD y).size := by omega
        have x5 : ¬ 9223372036854775807 < (c k).size + 1 + (dD x).size + 1 + (dD y).size + 1 := by omega
        have x6 : ¬ 9223372036854775807 < (ptx c a b k).size + ((c k).size + 1 + (dD x).size + 1 + (dD y).size + 1) := by omega
        have HS : Hid (ptx c a b k ++ (c k ++ ⟨#[58]⟩ ++ dD x ++ ⟨#[45]⟩ ++ dD y ++ ⟨#[59]⟩) = ptx c a b (k + 1)) := by
          show _ = _
          rw [ptx, hx, hy]
          simp [ByteArray.append_assoc]
        clear hx hy
        go_wp2_with fail
        (refine wp_region_below_lit (by kernel_rfl) (by kernel_rfl) ?_; (repeat (first | go_big_quiet_step ((go_at_call 11; exact quiet_ov (l1Num_any _ _ (by omega)))) | quiet_step ((go_at_call 11; exact quiet_ov (l1Num_any _ _ (by omega)))))); refine wpQuiet_nil ?_; intro w2 hb2; have hz2 := hb2.size; (try (simp at hz2)); obtain ⟨hcw2, hfw2⟩ := bcell hb2; (try (have hy2 : w.heap.size < w2.heap.size := by omega)); (try (have hyy2 : w.heap.size + 1 < w2.heap.size := by omega)))
        go_wp2_with fail
        go_roundg (n - k)
        case measure => omega
        case rel => exact ⟨k + 1, by omega, by omega, by rw [HS.out], by go_num, (by repeat (first | (with_reducible exact Below.refl _ _) | (with_reducible refine below_ov ?_ ?_) | (with_reducible refine Below.setCell ?_ ?_ _) | (with_reducible refine Below.alloc ?_ ?_ _) | (with_reducible refine Below.drew ?_) | (with_reducible refine below_drewN ?_ _) | (refine Below.trans ?_ (Below.mono ‹Below _ _ _› (by first | omega | (simp; done) | (simp; omega)))) | exact Below.refl _ _ | omega | (focus (simp; done)) | (focus (simp; omega))))⟩
      · obtain rfl : k = n := by omega
        go_wp2_with fail
        go_ret2
        rw [HX.out]
        exact ⟨rfl, hb⟩
set_option maxRecDepth 100000 in
set_option maxHeartbeats 3200000 in
theorem PeriodsText_impl (c : Nat → ByteArray) (a b : Nat → Int) (n lo hi : Nat) (v : Value) (w : World) (hv : Sl w lo hi 3 v n (siiC c a b)) (hhi : hi ≤ w.heap.size) (hf : pfits c n) (ht : Tab w) :
    Calls Tryd.prog 7 #[v] w fun e w' => e = .returned (.tuple #[.string (ptS c a b n), .bool (pdB c a b n)]) ∧ Below w.heap.size w w' := by
  obtain ⟨A, cap, rfl, hcap, hA⟩ := hv.open_
  cases e1 : pdB c a b n with
  | false =>
    have HX : Hid (ptS c a b n = ⟨#[]⟩) := by show _ = _; rw [ptS, e1]; rfl
    go_enter Tryd.func7, Tryd.ntmps7
    go_wp2_with fail
    refine (arePeriods_any c a b n lo hi _ _ (hv.below (B := w.heap.size) (by repeat (first | (with_reducible exact Below.refl _ _) | (with_reducible refine below_ov ?_ ?_) | (with_reducible refine Below.setCell ?_ ?_ _) | (with_reducible refine Below.alloc ?_ ?_ _) | (with_reducible refine Below.drew ?_) | (with_reducible refine below_drewN ?_ _) | (refine Below.trans ?_ (Below.mono ‹Below _ _ _› (by first | omega | (simp; done) | (simp; omega)))) | exact Below.refl _ _ | omega | (focus (simp; done)) | (focus (simp; omega)))) hhi) (by first | omega | (simp; done) | (simp; omega)) hf).mono ?_
    rintro e w1 ⟨rfl, hb1⟩
    have hz1 := hb1.size
    rw [e1]
    go_wp2_with fail
    go_ret2
    rw [HX.out]
    exact ⟨rfl, (by repeat (first | (with_reducible exact Below.refl _ _) | (with_reducible refine below_ov ?_ ?_) | (with_reducible refine Below.setCell ?_ ?_ _) | (with_reducible refine Below.alloc ?_ ?_ _) | (with_reducible refine Below.drew ?_) | (with_reducible refine below_drewN ?_ _) | (refine Below.trans ?_ (Below.mono ‹Below _ _ _› (by first | omega | (simp; done) | (simp; omega)))) | exact Below.refl _ _ | omega | (focus (simp; done)) | (focus (simp; omega))))⟩
  | true =>
    have HX : Hid (ptS c a b n = ptx c a b n) := by show _ = _; rw [ptS, e1]; rfl
    have HG := hide e1
    have hn12 := (pd_facts e1).1
    go_enter Tryd.func7, Tryd.ntmps7
    go_wp2_with fail
    refine (arePeriods_any c a b n lo hi _ _ (hv.below (B := w.heap.size) (by repeat (first | (with_reducible exact Below.refl _ _) | (with_reducible refine below_ov ?_ ?_) | (with_reducible refine Below.setCell ?_ ?_ _) | (with_reducible refine Below.alloc ?_ ?_ _) | (with_reducible refine Below.drew ?_) | (with_reducible refine below_drewN ?_ _) | (refine Below.trans ?_ (Below.mono ‹Below _ _ _› (by first | omega | (simp; done) | (simp; omega)))) | exact Below.refl _ _ | omega | (focus (simp; done)) | (focus (simp; omega)))) hhi) (by first | omega | (simp; done) | (simp; omega)) hf).mono ?_
    rintro e w1 ⟨rfl, hb1⟩
    have hz1 := hb1.size
    rw [e1]
    clear e1
    go_wp2_with fail
    go_loopg [4, 12] (n + 1) (fun gn sv iv wr => ∃ k : Nat, k ≤ n ∧ n - k < gn ∧ sv = .string (ptx c a b k) ∧ iv = .int .i64 k ∧ Below w.heap.size w wr)
    case atStart => exact ⟨0, by omega, by omega, rfl, rfl, hb1⟩
    case round =>
      obtain ⟨k, hk, hgn, rfl, rfl, hb⟩ := hrel
      have hzr := hb.size
      by_cases hkn : k < n
      · obtain ⟨blk, off, rfl, h1, h2, h3⟩ := (hA.below hb (by omega)) (by omega)
        obtain ⟨hs6, ⟨x, hx, hx'⟩, y, hy, hy'⟩ := per_bd HG.out hkn
        have c0 : wr.cell? ⟨blk, off + k * 3, none⟩ = some (.string (c k)) := h3 k 0 hkn (by omega)
        have c1 : wr.cell? ⟨blk, off + k * 3 + 1, none⟩ = some (.int .i64 x) := by rw [← hx]; exact h3 k 1 hkn (by omega)
        have c2 : wr.cell? ⟨blk, off + k * 3 + 2, none⟩ = some (.int .i64 y) := by rw [← hy]; exact h3 k 2 hkn (by omega)
        have l0 : blk < wr.heap.size := by omega
        clear h3 hA
        have sx := dD_size x
        have sy := dD_size y
        have ps := ptx_size HG.out k hk
        have x1 : ¬ 9223372036854775807 < (c k).size + 1 := by omega
        obtain ⟨J, hJ⟩ : ∃ J, J = dD x ++ ⟨#[45]⟩ ++ dD y := ⟨_, rfl⟩
        have sJ : J.size ≤ 30000 := by
          rw [hJ]
          simp only [ByteArray.size_append]
          have e2 : (⟨#[45]⟩ : ByteArray).size = 1 := rfl
          omega
        have x2 : ¬ 9223372036854775807 < (c k).size + 1 + J.size := by omega
        have x3 : ¬ 9223372036854775807 < (c k).size + 1 + J.size + 1 := by omega
        have x4 : ¬ 9223372036854775807 < (ptx c a b k).size + ((c k).size + 1 + J.size + 1) := by omega
        have HS : Hid (ptx c a b k ++ (c k ++ ⟨#[58]⟩ ++ (dD x ++ ⟨#[45]⟩ ++ dD y) ++ ⟨#[59]⟩) = ptx c a b (k + 1)) := by
          show _ = _
          rw [ptx, hx, hy]
          rfl
        have HJ := hide hJ
        clear hx hy hJ
        go_wp2_with fail
        obtain ⟨W0, hW0⟩ : ∃ W, W = wr.alloc (.cells #[.string (c k), .int .i64 x, .int .i64 y] 34) := ⟨_, rfl⟩
        have hb0 : Below w.heap.size w W0 := by rw [hW0]; exact hb.alloc hzr _
        have q0 : W0.cell? ⟨wr.heap.size, 0, none⟩ = some (.string (c k)) := by rw [hW0]; exact World.cell?_alloc_new _ _ _ _
        have q1 : W0.cell? ⟨wr.heap.size, 1, none⟩ = some (.int .i64 x) := by rw [hW0]; exact World.cell?_alloc_new _ _ _ _
        have q2 : W0.cell? ⟨wr.heap.size, 2, none⟩ = some (.int .i64 y) := by rw [hW0]; exact World.cell?_alloc_new _ _ _ _
        have lq : wr.heap.size < W0.heap.size := by rw [hW0]; simp
        rw [← hW0]
        have HW0 := hide hW0
        clear hW0 c0 c1 c2
        have HC : Hid (∀ W, Below W0.heap.size W0 W → W.cell? ⟨wr.heap.size, 0, none⟩ = some (.string (c k)) ∧ W.cell? ⟨wr.heap.size, 1, none⟩ = some (.int .i64 x) ∧ W.cell? ⟨wr.heap.size, 2, none⟩ = some (.int .i64 y)) := fun W hW =>
          ⟨(hW.cell (p := ⟨wr.heap.size, 0, none⟩) lq).trans q0, (hW.cell (p := ⟨wr.heap.size, 1, none⟩) lq).trans q1, (hW.cell (p := ⟨wr.heap.size, 2, none⟩) lq).trans q2⟩
        clear q0 q1 q2
        refine wp_region_mix [(0, true), (1, true), (2, true), (3, true), (4, true), (5, true), (6, true), (7, true), (8, false), (9, false), (10, true), (11, true), (12, true), (13, true)] (fun W => Below W0.heap.size W0 W) (by kernel_rfl) (by kernel_rfl) (by kernel_rfl) (by kernel_rfl) (Below.drew (Below.refl _ _)) ?_
        refine mix_look _ _ rfl rfl (fun w' _ => BigFrame.run_move _ rfl w') ?_
        go_simp
        refine mix_look _ (.pointer (some ⟨wr.heap.size, 0, none⟩)) rfl rfl (fun w' hw' => (by go_simp)) ?_
        go_simp
        refine mix_look _ (.string (c k)) rfl rfl (fun w' hw' => (by obtain ⟨a0, a1, a2⟩ := HC.out w' hw'; go_simp)) ?_
        go_simp
        refine mix_look _ (.string (c k ++ ⟨#[58]⟩)) rfl rfl (fun w' hw' => (by go_simp)) ?_
        go_simp
        refine mix_look _ (.pointer (some ⟨wr.heap.size, 1, none⟩)) rfl rfl (fun w' hw' => (by go_simp)) ?_
        go_simp
        refine mix_look _ (.int .i64 x) rfl rfl (fun w' hw' => (by obtain ⟨a0, a1, a2⟩ := HC.out w' hw'; go_simp)) ?_
        go_simp
        refine mix_look _ (.pointer (some ⟨wr.heap.size, 2, none⟩)) rfl rfl (fun w' hw' => (by go_simp)) ?_
        go_simp
        refine mix_look _ (.int .i64 y) rfl rfl (fun w' hw' => (by obtain ⟨a0, a1, a2⟩ := HC.out w' hw'; go_simp)) ?_
        go_simp
        have hbd : Below w.heap.size w W0.drew := Below.drew hb0
        obtain ⟨W1, hW1⟩ : ∃ W, W = W0.drew.alloc (.cells #[.int .i64 x, .int .i64 y] 3) := ⟨_, rfl⟩
        have hb1 : Below w.heap.size w W1 := by rw [hW1]; exact hbd.alloc hbd.size _
        have hB1 : Below W0.heap.size W0 W1 := by rw [hW1]; exact (Below.drew (Below.refl _ _)).alloc (Nat.le_refl _) _
        have e0 : W1.cell? ⟨W0.heap.size, 0, none⟩ = some (.int .i64 x) := by rw [hW1]; exact World.cell?_alloc_new W0.drew _ _ _
        have e1 : W1.cell? ⟨W0.heap.size, 1, none⟩ = some (.int .i64 y) := by rw [hW1]; exact World.cell?_alloc_new W0.drew _ _ _
        have le : W0.heap.size < W1.heap.size := by rw [hW1]; simp
        have HE0 := hide e0
        have HE1 := hide e1
        have HW1 := hide hW1
        clear hW1 e0 e1
        refine mix_value _ (.slice (some ⟨W0.heap.size, 0, none⟩) 2 2) W1 rfl rfl (by rw [HW1.out]; go_simp) hB1 ?_
        go_simp
        refine mix_call _ 14 #[.string ⟨#[45]⟩, .slice (some ⟨W0.heap.size, 0, none⟩) 2 2] rfl rfl (by go_simp) ?_
        refine (joinNumbers_two x y W0.heap.size _ (by omega) (by omega) (ht.below hb1 (Nat.le_refl _)) le HE0.out HE1.out).mono ?_
        rintro e w2 ⟨rfl, hb2⟩
        have hz2 := hb2.size
        have hB2 : Below W0.heap.size W0 w2 := hB1.trans (hb2.mono hB1.size)
        have hb02 : Below w.heap.size w w2 := hb1.trans (hb2.mono hb1.size)
        refine ⟨_, rfl, hB2, ?_⟩
        rw [← HJ.out]
        go_simp
        refine mix_look _ (.string (c k ++ ⟨#[58]⟩ ++ J)) rfl rfl (fun w' hw' => (by go_simp)) ?_
        go_simp
        refine mix_look _ (.string (c k ++ ⟨#[58]⟩ ++ J ++ ⟨#[59]⟩)) rfl rfl (fun w' hw' => (by go_simp)) ?_
        go_simp
        refine mix_look _ (.string (ptx c a b k ++ (c k ++ ⟨#[58]⟩ ++ J ++ ⟨#[59]⟩))) rfl rfl (fun w' hw' => (by go_simp)) ?_
        go_simp
        refine mix_look _ _ rfl rfl (fun w' _ => BigFrame.run_assign _ rfl w') ?_
        go_simp
        refine wpMix_nil ?_
        go_wp2_with fail
        go_roundg (n - k)
        case measure => omega
        case rel => exact ⟨k + 1, by omega, by omega, by rw [← HS.out, HJ.out], by go_num, hb02⟩
      · obtain rfl : k = n := by omega
        go_wp2_with fail
        go_ret2
        rw [HX.out]
        exact ⟨rfl, hb⟩

end Go.Proofs.YtmonfljjdngfeaaDoor
