/-
  Texts of this proof, one behind the other (part 15).
-/
import Derived.Test.YtnmmkechkcfjnaaGreatDoorQ14
import Derived.Shelf.Strings.OnBuilder
import Derived.BigRegion
import Derived.Deep.LoopGhost
import Derived.Ground.NamesProg
import Derived.Shelf.Lay
import Derived.Shelf.Slices.In.CompactS
import Derived.Shelf.Slices.In.SortAlone
import Derived.Shelf.Slices.In.SortNone
import Derived.Sort.OwnSorted
import Derived.Sort.EveryDepth
import Derived.Sort.Grow
import Derived.Lib.OwnBridge
import Derived.Test.YtnmmkechkcfjnaaGreatDoorCards
/-
  Walks: the text of periods: the program's and the reference's.-/
namespace Go.Proofs
open Go.RowKit Go.Shelf
shelf_lay Lays.n156 Nm 156 at Tryz as YtnmmkechkcfjnaaGreatDoor.laysJoin
theorem YtnmmkechkcfjnaaGreatDoor.extraJoin : Builder.Extra Tryz.prog YtnmmkechkcfjnaaGreatDoor.laysJoin_ren where
  sizeBuilder := by kernel_rfl
  liesBuilder := by kernel_rfl
  t5 := Tryz.underlying5
  a5 := Tryz.isAgg5
  z5 := Tryz.sizeOf5
  v5 := Tryz.zeroValue5
  infoByte := by kernel_rfl
  cellsByte := by kernel_rfl
  sizeByte := by kernel_rfl
  neB5 := by decide
end Go.Proofs
namespace Go.Proofs.YtnmmkechkcfjnaaGreatDoor
set_option linter.unusedVariables false
set_option linter.unusedSimpArgs false
open Go.RowKit Go.Shelf

/-- The text of the first periods. -/
def ptx (c : Nat → ByteArray) (a b : Nat → Int) : Nat → ByteArray
  | 0 => ⟨#[]⟩
  | k + 1 => ptx c a b k ++ (c k ++ ⟨#[58]⟩ ++ (dD (a k).toNat ++ ⟨#[45]⟩ ++ dD (b k).toNat) ++ ⟨#[59]⟩)
def ptS (c : Nat → ByteArray) (a b : Nat → Int) (n : Nat) : ByteArray := if pdB c a b n = true then ptx c a b n else ⟨#[]⟩
theorem per_bd {c : Nat → ByteArray} {a b : Nat → Int} {n k : Nat} (h : pdB c a b n = true) (hk : k < n) : (c k).size ≤ 6 ∧ (∃ x : Nat, a k = x ∧ x ≤ 9999) ∧ ∃ y : Nat, b k = y ∧ y ≤ 9999 := by
  have h1 := ((pd_facts h).2 k hk).1
  have h2 := perB_iff.1 h1
  have h3 : (c k).size ≤ 6 := by
    have := h2.1
    simp only [nameB, Bool.and_eq_true, inB_iff] at this
    omega
  exact ⟨h3, ⟨(a k).toNat, by omega, by omega⟩, ⟨(b k).toNat, by omega, by omega⟩⟩
theorem ptx_size {c : Nat → ByteArray} {a b : Nat → Int} {n : Nat} (h : pdB c a b n = true) : ∀ k, k ≤ n → (ptx c a b k).size ≤ 30000 * k
  | 0, _ => Nat.zero_le _
  | k + 1, hk => by
    have h1 := ptx_size h k (by omega)
    obtain ⟨h2, ⟨x, hx, hx'⟩, y, hy, hy'⟩ := per_bd h (show k < n by omega)
    have h3 := dD_size x
    have h4 := dD_size y
    rw [ptx, hx, hy]
    simp only [ByteArray.size_append, Int.toNat_natCast]
    have e1 : (⟨#[58]⟩ : ByteArray).size = 1 := rfl
    have e2 : (⟨#[45]⟩ : ByteArray).size = 1 := rfl
    have e3 : (⟨#[59]⟩ : ByteArray).size = 1 := rfl
    omega
theorem infoStrJ : (Tryz.prog.info? 9).map (fun i => (i.zero, i.size, i.bytes)) = some (some (.string ⟨#[]⟩), 1, 16) := by kernel_rfl
def jL (x y k : Nat) : List Value := [.string (dD x), .string (dD y)].take k
theorem jL_step {x y k : Nat} (h : k < 2) : jL x y k ++ [.string (dD (if k = 0 then x else y))] = jL x y (k + 1) := by
  have : k = 0 ∨ k = 1 := by omega
  rcases this with rfl | rfl <;> rfl
theorem Join_two (x y g cap : Nat) (w : World) (hg : g < w.heap.size) (hcap : 2 ≤ cap) (c0 : w.cell? ⟨g, 0, none⟩ = some (.string (dD x))) (c1 : w.cell? ⟨g, 1, none⟩ = some (.string (dD y))) (hx : x ≤ 100000) (hy : y ≤ 100000) :
    Calls Tryz.prog 78 #[.slice (some ⟨g, 0, none⟩) 2 cap, .string ⟨#[45]⟩] w fun e w' => e = .returned (.string (dD x ++ ⟨#[45]⟩ ++ dD y)) ∧ Below w.heap.size w w' := by
  have s1 := dD_size x
  have s2 := dD_size y
  have e1 : Lib.join ([dD x, dD y].map (·.data.toList)) (⟨#[45]⟩ : ByteArray).data.toList = (dD x ++ ⟨#[45]⟩ ++ dD y).data.toList := by
    simp [Lib.join_cons, Lib.joinTail, ByteArray.data_append]
  have h := Any.strings_Join YtnmmkechkcfjnaaGreatDoor.laysJoin YtnmmkechkcfjnaaGreatDoor.extraJoin g 0 cap [dD x, dD y] ⟨#[45]⟩ w (fun j z hj => by
    match j, hj with
    | 0, hj => cases hj; simpa using c0
    | 1, hj => cases hj; simpa using c1) hg (by simp) (by simpa using hcap) (by
    rw [e1]
    have : (dD x ++ ⟨#[45]⟩ ++ dD y).data.toList.length = (dD x ++ ⟨#[45]⟩ ++ dD y).size := Array.length_toList
    rw [this]
    simp only [ByteArray.size_append]
    have e2 : (⟨#[45]⟩ : ByteArray).size = 1 := rfl
    omega)
  refine h.mono fun e w' ⟨he, hb⟩ => ⟨?_, hb⟩
  rw [he, e1]
set_option maxRecDepth 100000 in
set_option maxHeartbeats 1600000 in
theorem joinNumbers_two (x y g : Nat) (w : World) (hx : x ≤ 100000) (hy : y ≤ 100000) (ht : Tab w) (hg : g < w.heap.size) (c0 : w.cell? ⟨g, 0, none⟩ = some (.int .i64 x)) (c1 : w.cell? ⟨g, 1, none⟩ = some (.int .i64 y)) :
    Calls Tryz.prog 61 #[.string ⟨#[45]⟩, .slice (some ⟨g, 0, none⟩) 2 2] w fun e w' => e = .returned (.string (dD x ++ ⟨#[45]⟩ ++ dD y)) ∧ Below w.heap.size w w' := by
  obtain ⟨i0, hi0, iz0, iz1, iz2⟩ := info_parts infoStrJ
  go_enter Tryz.func61, Tryz.ntmps61
  go_wp2_with fail
  go_loopg [5, 10] 3 (fun gn ws iv wr => ∃ (k : Nat) (B : Option Addr) (cp : Nat), k ≤ 2 ∧ 2 - k < gn ∧ ws = .slice B k cp ∧ iv = .int .i64 k ∧ Hid (wr.ownsRow w.heap.size 9 1 (.slice B k cp) k (jL x y k)) ∧ Below w.heap.size w wr)
  case atStart => exact ⟨0, none, 0, by omega, by omega, rfl, rfl, World.ownsRow_nil _ _ _ _, Below.refl _ _⟩
  case round =>
    obtain ⟨k, B, cp, hk, hgn, rfl, rfl, hown, hb⟩ := hrel
    have hzr := hb.size
    by_cases hkn : k < 2
    · obtain ⟨m, hm⟩ : ∃ m, m = if k = 0 then x else y := ⟨_, rfl⟩
      have hm' : m ≤ 100000 := by rw [hm]; split <;> omega
      have ck : wr.cell? ⟨g, k, none⟩ = some (.int .i64 (m : Nat)) := by
        rw [(hb.cell (p := ⟨g, k, none⟩) hg), hm]
        have : k = 0 ∨ k = 1 := by omega
        rcases this with rfl | rfl
        · exact c0
        · exact c1
      have lg : g < wr.heap.size := by omega
      have HM := hide hm
      clear hm
      go_wp2_with fail
      refine (Itoa_any m _ (by omega) (ht.below hb (Nat.le_refl _))).mono ?_
      rintro e w1 ⟨rfl, hb1⟩
      have hz1 := hb1.size
      have hown1 := row_below hown.out hb1 (Nat.le_refl _)
      have hb01 : Below w.heap.size w w1 := hb.trans (hb1.mono hzr)
      go_wp2_with (at_builtin; refine wpList_append_own _ rfl _ _ 24 rfl w.heap.size 9 i0 (.string ⟨#[]⟩) 1 16 Tryz.underlying24 hi0 iz0 iz1 iz2 rfl (by decide) _ _ _ rfl (hown1.alloc _) ⟨w1.heap.size, 0, none⟩ 1 1 [.string (dD m)] rfl rfl ?_ ?_ ?_ ?_ ?_ ?_)
      · intro i u hu
        match i, hu with
        | 0, hu => simp at hu; subst hu; simp [go_sem, Addr.add]
      · intro u hu; simp at hu; subst hu; rfl
      · unfold maxLen; omega
      · omega
      · simp; omega
      intro v' w2 hown2 hg2 _
      have hb2 : Below w.heap.size w w2 := (hb01.alloc (by omega) _).grown hg2 (by simp; omega) (fun g hg => (hown1.lt g hg).1)
      obtain ⟨B2, cp2, rfl⟩ := row_form hown2
      have hown3 : Hid (w2.ownsRow w.heap.size 9 1 (.slice B2 (k + 1) cp2) (k + 1) (jL x y (k + 1))) := by
        have h := hown2
        rw [HM.out, jL_step hkn] at h
        exact h
      clear hown1 hown2 hown hg2
      go_wp2_with fail
      go_roundg (2 - k)
      case measure => omega
      case rel => exact ⟨k + 1, B2, cp2, by omega, by omega, rfl, by go_num, hown3, hb2⟩
    · obtain rfl : k = 2 := by omega
      rcases hown.out.2 with ⟨_, h0⟩ | ⟨g2, cap2, cur, h0, hbg, hh, hnc, _⟩
      · cases h0
      · cases h0
        have d0 := hown.out.cellAt 0 (by omega)
        have d1 := hown.out.cellAt 1 (by omega)
        have hl := hown.out.lt g2 rfl
        have HD0 := hide (d0.trans rfl : wr.cell? ⟨g2, 0, none⟩ = some (.string (dD x)))
        have HD1 := hide (d1.trans rfl : wr.cell? ⟨g2, 1, none⟩ = some (.string (dD y)))
        clear d0 d1
        go_wp2_with fail
        refine (Join_two x y g2 _ _ hl.2 hnc HD0.out HD1.out hx hy).mono ?_
        rintro e w1 ⟨rfl, hb1⟩
        have hz1 := hb1.size
        go_wp2_with fail
        go_ret
        exact ⟨rfl, hb.trans (hb1.mono hzr)⟩
set_option maxRecDepth 100000 in
set_option maxHeartbeats 3200000 in
theorem PeriodsText_spec (c : Nat → ByteArray) (a b : Nat → Int) (n lo hi : Nat) (v : Value) (w : World) (hv : Sl w lo hi 3 v n (siiC c a b)) (hhi : hi ≤ w.heap.size) (hf : pfits c n) :
    Calls Tryz.prog 25 #[v] w fun e w' => e = .returned (.tuple #[.string (ptS c a b n), .bool (pdB c a b n)]) ∧ Below w.heap.size w w' := by
  obtain ⟨A, cap, rfl, hcap, hA⟩ := hv.open_
  cases e1 : pdB c a b n with
  | false =>
    have HX : Hid (ptS c a b n = ⟨#[]⟩) := by show _ = _; rw [ptS, e1]; rfl
    go_enter Tryz.func25, Tryz.ntmps25
    go_wp2_with fail
    refine (rfGood_any c a b n lo hi _ _ (hv.below (B := w.heap.size) (by repeat (first | (with_reducible exact Below.refl _ _) | (with_reducible refine below_ov ?_ ?_) | (with_reducible refine Below.setCell ?_ ?_ _) | (with_reducible refine Below.alloc ?_ ?_ _) | (with_reducible refine Below.drew ?_) | (with_reducible refine below_drewN ?_ _) | (refine Below.trans ?_ (Below.mono ‹Below _ _ _› (by first | omega | (simp; done) | (simp; omega)))) | exact Below.refl _ _ | omega | (focus (simp; done)) | (focus (simp; omega)))) hhi) (by first | omega | (simp; done) | (simp; omega)) hf).mono ?_
    rintro e w1 ⟨rfl, hb1⟩
    have hz1 := hb1.size
    rw [e1]
    go_wp2_with fail
    go_ret2
    rw [HX.out]
    exact ⟨rfl, (by repeat (first | (with_reducible exact Below.refl _ _) | (with_reducible refine below_ov ?_ ?_) | (with_reducible refine Below.setCell ?_ ?_ _) | (with_reducible refine Below.alloc ?_ ?_ _) | (with_reducible refine Below.drew ?_) | (with_reducible refine below_drewN ?_ _) | (refine Below.trans ?_ (Below.mono ‹Below _ _ _› (by first | omega | (simp; done) | (simp; omega)))) | exact Below.refl _ _ | omega | (focus (simp; done)) | (focus (simp; omega))))⟩
  | true =>
    have HX : Hid (ptS c a b n = ptx c a b n) := by show _ = _; rw [ptS, e1]; rfl
    have HG := hide e1
    have hn12 := (pd_facts e1).1
    go_enter Tryz.func25, Tryz.ntmps25
    go_wp2_with fail
    refine (rfGood_any c a b n lo hi _ _ (hv.below (B := w.heap.size) (by repeat (first | (with_reducible exact Below.refl _ _) | (with_reducible refine below_ov ?_ ?_) | (with_reducible refine Below.setCell ?_ ?_ _) | (with_reducible refine Below.alloc ?_ ?_ _) | (with_reducible refine Below.drew ?_) | (with_reducible refine below_drewN ?_ _) | (refine Below.trans ?_ (Below.mono ‹Below _ _ _› (by first | omega | (simp; done) | (simp; omega)))) | exact Below.refl _ _ | omega | (focus (simp; done)) | (focus (simp; omega)))) hhi) (by first | omega | (simp; done) | (simp; omega)) hf).mono ?_
    rintro e w1 ⟨rfl, hb1⟩
    have hz1 := hb1.size
    rw [e1]
    clear e1
    go_wp2_with fail
    go_loopg [4, 12] (n + 1) (fun gn sv iv wr => ∃ k : Nat, k ≤ n ∧ n - k < gn ∧ sv = .string (ptx c a b k) ∧ iv = .int .i64 k ∧ Below w.heap.size w wr)
    case atStart => exact ⟨0, by omega, by omega, rfl, rfl, hb1⟩
    case round =>
      obtain ⟨k, hk, hgn, rfl, rfl, hb⟩ := hrel
      have hzr := hb.size
      by_cases hkn : k < n
      · obtain ⟨blk, off, rfl, h1, h2, h3⟩ := (hA.below hb (by omega)) (by omega)
        obtain ⟨hs6, ⟨x, hx, hx'⟩, y, hy, hy'⟩ := per_bd HG.out hkn
        have c0 : wr.cell? ⟨blk, off + k * 3, none⟩ = some (.string (c k)) := h3 k 0 hkn (by omega)
        have c1 : wr.cell? ⟨blk, off + k * 3 + 1, none⟩ = some (.int .i64 x) := by rw [← hx]; exact h3 k 1 hkn (by omega)
        have c2 : wr.cell? ⟨blk, off + k * 3 + 2, none⟩ = some (.int .i64 y) := by rw [← hy]; exact h3 k 2 hkn (by omega)
        have l0 : blk < wr.heap.size := by omega
        clear h3 hA
        have sx := dD_size x
        have sy := dD_size y
        have ps := ptx_size HG.out k hk
        have x1 : ¬ 9223372036854775807 < (c k).size + 1 := by omega
        have x2 : ¬ 9223372036854775807 < (c k).size + 1 + (dD x).size := by omega
        have x3 : ¬ 9223372036854775807 < (c k).size + 1 + (dD x).size + 1 := by omega
        have x4 : ¬ 9223372036854775807 < (c k).size + 1 + (dD x).size + 1 + (dD y).size := by omega
        have x5 : ¬ 9223372036854775807 < (c k).size + 1 + (dD x).size + 1 + (dD y).size + 1 := by omega
        have x6 : ¬ 9223372036854775807 < (ptx c a b k).size + ((c k).size + 1 + (dD x).size + 1 + (dD y).size + 1) := by omega
        have HS : Hid (ptx c a b k ++ (c k ++ ⟨#[58]⟩ ++ dD x ++ ⟨#[45]⟩ ++ dD y ++ ⟨#[59]⟩) = ptx c a b (k + 1)) := by
          show _ = _
          rw [ptx, hx, hy]
          simp [ByteArray.append_assoc]
        clear hx hy
        go_wp2_with fail
        (refine wp_region_below_lit (by kernel_rfl) (by kernel_rfl) ?_; (repeat (first | go_big_quiet_step ((go_at_call 62; exact quiet_ov (l1Num_any _ _ (by omega)))) | quiet_step ((go_at_call 62; exact quiet_ov (l1Num_any _ _ (by omega)))))); refine wpQuiet_nil ?_; intro w2 hb2; have hz2 := hb2.size; (try (simp at hz2)); obtain ⟨hcw2, hfw2⟩ := bcell hb2; (try (have hy2 : w.heap.size < w2.heap.size := by omega)); (try (have hyy2 : w.heap.size + 1 < w2.heap.size := by omega)))
        go_wp2_with fail
        go_roundg (n - k)
        case measure => omega
        case rel => exact ⟨k + 1, by omega, by omega, by rw [HS.out], by go_num, (by repeat (first | (with_reducible exact Below.refl _ _) | (with_reducible refine below_ov ?_ ?_) | (with_reducible refine Below.setCell ?_ ?_ _) | (with_reducible refine Below.alloc ?_ ?_ _) | (with_reducible refine Below.drew ?_) | (with_reducible refine below_drewN ?_ _) | (refine Below.trans ?_ (Below.mono ‹Below _ _ _› (by first | omega | (simp; done) | (simp; omega)))) | exact Below.refl _ _ | omega | (focus (simp; done)) | (focus (simp; omega))))⟩
      · obtain rfl : k = n := by omega
        go_wp2_with fail
        go_ret2
        rw [HX.out]
        exact ⟨rfl, hb⟩
set_option maxRecDepth 100000 in
set_option maxHeartbeats 3200000 in
theorem PeriodsText_impl (c : Nat → ByteArray) (a b : Nat → Int) (n lo hi : Nat) (v : Value) (w : World) (hv : Sl w lo hi 3 v n (siiC c a b)) (hhi : hi ≤ w.heap.size) (hf : pfits c n) (ht : Tab w) :
    Calls Tryz.prog 24 #[v] w fun e w' => e = .returned (.tuple #[.string (ptS c a b n), .bool (pdB c a b n)]) ∧ Below w.heap.size w w' := by
  obtain ⟨A, cap, rfl, hcap, hA⟩ := hv.open_
  cases e1 : pdB c a b n with
  | false =>
    have HX : Hid (ptS c a b n = ⟨#[]⟩) := by show _ = _; rw [ptS, e1]; rfl
    go_enter Tryz.func24, Tryz.ntmps24
    go_wp2_with fail
    refine (arePeriods_any c a b n lo hi _ _ (hv.below (B := w.heap.size) (by repeat (first | (with_reducible exact Below.refl _ _) | (with_reducible refine below_ov ?_ ?_) | (with_reducible refine Below.setCell ?_ ?_ _) | (with_reducible refine Below.alloc ?_ ?_ _) | (with_reducible refine Below.drew ?_) | (with_reducible refine below_drewN ?_ _) | (refine Below.trans ?_ (Below.mono ‹Below _ _ _› (by first | omega | (simp; done) | (simp; omega)))) | exact Below.refl _ _ | omega | (focus (simp; done)) | (focus (simp; omega)))) hhi) (by first | omega | (simp; done) | (simp; omega)) hf).mono ?_
    rintro e w1 ⟨rfl, hb1⟩
    have hz1 := hb1.size
    rw [e1]
    go_wp2_with fail
    go_ret2
    rw [HX.out]
    exact ⟨rfl, (by repeat (first | (with_reducible exact Below.refl _ _) | (with_reducible refine below_ov ?_ ?_) | (with_reducible refine Below.setCell ?_ ?_ _) | (with_reducible refine Below.alloc ?_ ?_ _) | (with_reducible refine Below.drew ?_) | (with_reducible refine below_drewN ?_ _) | (refine Below.trans ?_ (Below.mono ‹Below _ _ _› (by first | omega | (simp; done) | (simp; omega)))) | exact Below.refl _ _ | omega | (focus (simp; done)) | (focus (simp; omega))))⟩
  | true =>
    have HX : Hid (ptS c a b n = ptx c a b n) := by show _ = _; rw [ptS, e1]; rfl
    have HG := hide e1
    have hn12 := (pd_facts e1).1
    go_enter Tryz.func24, Tryz.ntmps24
    go_wp2_with fail
    refine (arePeriods_any c a b n lo hi _ _ (hv.below (B := w.heap.size) (by repeat (first | (with_reducible exact Below.refl _ _) | (with_reducible refine below_ov ?_ ?_) | (with_reducible refine Below.setCell ?_ ?_ _) | (with_reducible refine Below.alloc ?_ ?_ _) | (with_reducible refine Below.drew ?_) | (with_reducible refine below_drewN ?_ _) | (refine Below.trans ?_ (Below.mono ‹Below _ _ _› (by first | omega | (simp; done) | (simp; omega)))) | exact Below.refl _ _ | omega | (focus (simp; done)) | (focus (simp; omega)))) hhi) (by first | omega | (simp; done) | (simp; omega)) hf).mono ?_
    rintro e w1 ⟨rfl, hb1⟩
    have hz1 := hb1.size
    rw [e1]
    clear e1
    go_wp2_with fail
    go_loopg [4, 12] (n + 1) (fun gn sv iv wr => ∃ k : Nat, k ≤ n ∧ n - k < gn ∧ sv = .string (ptx c a b k) ∧ iv = .int .i64 k ∧ Below w.heap.size w wr)
    case atStart => exact ⟨0, by omega, by omega, rfl, rfl, hb1⟩
    case round =>
      obtain ⟨k, hk, hgn, rfl, rfl, hb⟩ := hrel
      have hzr := hb.size
      by_cases hkn : k < n
      · obtain ⟨blk, off, rfl, h1, h2, h3⟩ := (hA.below hb (by omega)) (by omega)
        obtain ⟨hs6, ⟨x, hx, hx'⟩, y, hy, hy'⟩ := per_bd HG.out hkn
        have c0 : wr.cell? ⟨blk, off + k * 3, none⟩ = some (.string (c k)) := h3 k 0 hkn (by omega)
        have c1 : wr.cell? ⟨blk, off + k * 3 + 1, none⟩ = some (.int .i64 x) := by rw [← hx]; exact h3 k 1 hkn (by omega)
        have c2 : wr.cell? ⟨blk, off + k * 3 + 2, none⟩ = some (.int .i64 y) := by rw [← hy]; exact h3 k 2 hkn (by omega)
        have l0 : blk < wr.heap.size := by omega
        clear h3 hA
        have sx := dD_size x
        have sy := dD_size y
        have ps := ptx_size HG.out k hk
        have x1 : ¬ 9223372036854775807 < (c k).size + 1 := by omega
        obtain ⟨J, hJ⟩ : ∃ J, J = dD x ++ ⟨#[45]⟩ ++ dD y := ⟨_, rfl⟩
        have sJ : J.size ≤ 30000 := by
          rw [hJ]
          simp only [ByteArray.size_append]
          have e2 : (⟨#[45]⟩ : ByteArray).size = 1 := rfl
          omega
        have x2 : ¬ 9223372036854775807 < (c k).size + 1 + J.size := by omega
        have x3 : ¬ 9223372036854775807 < (c k).size + 1 + J.size + 1 := by omega
        have x4 : ¬ 9223372036854775807 < (ptx c a b k).size + ((c k).size + 1 + J.size + 1) := by omega
        have HS : Hid (ptx c a b k ++ (c k ++ ⟨#[58]⟩ ++ (dD x ++ ⟨#[45]⟩ ++ dD y) ++ ⟨#[59]⟩) = ptx c a b (k + 1)) := by
          show _ = _
          rw [ptx, hx, hy]
          rfl
        have HJ := hide hJ
        clear hx hy hJ
        go_wp2_with fail
        obtain ⟨W0, hW0⟩ : ∃ W, W = wr.alloc (.cells #[.string (c k), .int .i64 x, .int .i64 y] 38) := ⟨_, rfl⟩
        have hb0 : Below w.heap.size w W0 := by rw [hW0]; exact hb.alloc hzr _
        have q0 : W0.cell? ⟨wr.heap.size, 0, none⟩ = some (.string (c k)) := by rw [hW0]; exact World.cell?_alloc_new _ _ _ _
        have q1 : W0.cell? ⟨wr.heap.size, 1, none⟩ = some (.int .i64 x) := by rw [hW0]; exact World.cell?_alloc_new _ _ _ _
        have q2 : W0.cell? ⟨wr.heap.size, 2, none⟩ = some (.int .i64 y) := by rw [hW0]; exact World.cell?_alloc_new _ _ _ _
        have lq : wr.heap.size < W0.heap.size := by rw [hW0]; simp
        rw [← hW0]
        have HW0 := hide hW0
        clear hW0 c0 c1 c2
        have HC : Hid (∀ W, Below W0.heap.size W0 W → W.cell? ⟨wr.heap.size, 0, none⟩ = some (.string (c k)) ∧ W.cell? ⟨wr.heap.size, 1, none⟩ = some (.int .i64 x) ∧ W.cell? ⟨wr.heap.size, 2, none⟩ = some (.int .i64 y)) := fun W hW =>
          ⟨(hW.cell (p := ⟨wr.heap.size, 0, none⟩) lq).trans q0, (hW.cell (p := ⟨wr.heap.size, 1, none⟩) lq).trans q1, (hW.cell (p := ⟨wr.heap.size, 2, none⟩) lq).trans q2⟩
        clear q0 q1 q2
        refine wp_region_mix [(0, true), (1, true), (2, true), (3, true), (4, true), (5, true), (6, true), (7, true), (8, false), (9, false), (10, true), (11, true), (12, true), (13, true)] (fun W => Below W0.heap.size W0 W) (by kernel_rfl) (by kernel_rfl) (by kernel_rfl) (by kernel_rfl) (Below.drew (Below.refl _ _)) ?_
        refine mix_look _ _ rfl rfl (fun w' _ => BigFrame.run_move _ rfl w') ?_
        go_simp
        refine mix_look _ (.pointer (some ⟨wr.heap.size, 0, none⟩)) rfl rfl (fun w' hw' => (by go_simp)) ?_
        go_simp
        refine mix_look _ (.string (c k)) rfl rfl (fun w' hw' => (by obtain ⟨a0, a1, a2⟩ := HC.out w' hw'; go_simp)) ?_
        go_simp
        refine mix_look _ (.string (c k ++ ⟨#[58]⟩)) rfl rfl (fun w' hw' => (by go_simp)) ?_
        go_simp
        refine mix_look _ (.pointer (some ⟨wr.heap.size, 1, none⟩)) rfl rfl (fun w' hw' => (by go_simp)) ?_
        go_simp
        refine mix_look _ (.int .i64 x) rfl rfl (fun w' hw' => (by obtain ⟨a0, a1, a2⟩ := HC.out w' hw'; go_simp)) ?_
        go_simp
        refine mix_look _ (.pointer (some ⟨wr.heap.size, 2, none⟩)) rfl rfl (fun w' hw' => (by go_simp)) ?_
        go_simp
        refine mix_look _ (.int .i64 y) rfl rfl (fun w' hw' => (by obtain ⟨a0, a1, a2⟩ := HC.out w' hw'; go_simp)) ?_
        go_simp
        have hbd : Below w.heap.size w W0.drew := Below.drew hb0
        obtain ⟨W1, hW1⟩ : ∃ W, W = W0.drew.alloc (.cells #[.int .i64 x, .int .i64 y] 3) := ⟨_, rfl⟩
        have hb1 : Below w.heap.size w W1 := by rw [hW1]; exact hbd.alloc hbd.size _
        have hB1 : Below W0.heap.size W0 W1 := by rw [hW1]; exact (Below.drew (Below.refl _ _)).alloc (Nat.le_refl _) _
        have e0 : W1.cell? ⟨W0.heap.size, 0, none⟩ = some (.int .i64 x) := by rw [hW1]; exact World.cell?_alloc_new W0.drew _ _ _
        have e1 : W1.cell? ⟨W0.heap.size, 1, none⟩ = some (.int .i64 y) := by rw [hW1]; exact World.cell?_alloc_new W0.drew _ _ _
        have le : W0.heap.size < W1.heap.size := by rw [hW1]; simp
        have HE0 := hide e0
        have HE1 := hide e1
        have HW1 := hide hW1
        clear hW1 e0 e1
        refine mix_value _ (.slice (some ⟨W0.heap.size, 0, none⟩) 2 2) W1 rfl rfl (by rw [HW1.out]; go_simp) hB1 ?_
        go_simp
        refine mix_call _ 61 #[.string ⟨#[45]⟩, .slice (some ⟨W0.heap.size, 0, none⟩) 2 2] rfl rfl (by go_simp) ?_
        refine (joinNumbers_two x y W0.heap.size _ (by omega) (by omega) (ht.below hb1 (Nat.le_refl _)) le HE0.out HE1.out).mono ?_
        rintro e w2 ⟨rfl, hb2⟩
        have hz2 := hb2.size
        have hB2 : Below W0.heap.size W0 w2 := hB1.trans (hb2.mono hB1.size)
        have hb02 : Below w.heap.size w w2 := hb1.trans (hb2.mono hb1.size)
        refine ⟨_, rfl, hB2, ?_⟩
        rw [← HJ.out]
        go_simp
        refine mix_look _ (.string (c k ++ ⟨#[58]⟩ ++ J)) rfl rfl (fun w' hw' => (by go_simp)) ?_
        go_simp
        refine mix_look _ (.string (c k ++ ⟨#[58]⟩ ++ J ++ ⟨#[59]⟩)) rfl rfl (fun w' hw' => (by go_simp)) ?_
        go_simp
        refine mix_look _ (.string (ptx c a b k ++ (c k ++ ⟨#[58]⟩ ++ J ++ ⟨#[59]⟩))) rfl rfl (fun w' hw' => (by go_simp)) ?_
        go_simp
        refine mix_look _ _ rfl rfl (fun w' _ => BigFrame.run_assign _ rfl w') ?_
        go_simp
        refine wpMix_nil ?_
        go_wp2_with fail
        go_roundg (n - k)
        case measure => omega
        case rel => exact ⟨k + 1, by omega, by omega, by rw [← HS.out, HJ.out], by go_num, hb02⟩
      · obtain rfl : k = n := by omega
        go_wp2_with fail
        go_ret2
        rw [HX.out]
        exact ⟨rfl, hb⟩

end Go.Proofs.YtnmmkechkcfjnaaGreatDoor

/-
  The library's Sort and Compact of texts, by the kit's contracts.-/
namespace Go.Proofs
open Go.RowKit Go.Shelf Go.Sort
shelf_lay Lays.n190 Nm 190 at Tryz as YtnmmkechkcfjnaaGreatDoor.laysSort
shelf_lay Lays.n194 Nm 194 at Tryz as YtnmmkechkcfjnaaGreatDoor.laysCompact
end Go.Proofs
namespace Go.Proofs.YtnmmkechkcfjnaaGreatDoor
set_option linter.unusedVariables false
set_option linter.unusedSimpArgs false
open Go.RowKit Go.Shelf Go.Sort
theorem sort_c (blk off cap : Nat) (zs : List (List UInt8)) (w : World) (hH : Holds encStr w blk off zs.toArray) (hblk : blk < w.heap.size) (hsz : zs.length < 4611686018427387904) :
    Calls Tryz.prog 75 #[.slice (some ⟨blk, off, none⟩) zs.length cap] w fun e w' =>
      e = .returned (.tuple #[]) ∧ ∃ n os, w' = grow (putRow encStr (Sort.ahead w n) blk off (zs.mergeSort fun x y => decide (x ≤ y)).toArray) os :=
  calls_of_every_depth fun D => AnyS.slices_Sort_string_alone YtnmmkechkcfjnaaGreatDoor.laysSort D blk off cap zs w hH hblk hsz
theorem compact_c (blk off cap : Nat) (zs : List (List UInt8)) (w : World) (hH : Holds encStr w blk off zs.toArray) (hsz : zs.length ≤ 9223372036854775807) (hcap : zs.length ≤ cap) :
    Calls Tryz.prog 76 #[.slice (some ⟨blk, off, none⟩) zs.length cap] w fun e w' => e = .returned (.slice (some ⟨blk, off, none⟩) (Lib.compact zs).length cap) ∧ ∃ q, w' = putRow encStr (Sort.ahead w q) blk off (Lib.compact zs ++ List.replicate (zs.length - (Lib.compact zs).length) []).toArray :=
  calls_of_every_depth fun D => AnyS.slices_Compact_string_in YtnmmkechkcfjnaaGreatDoor.laysCompact D blk off cap zs w hH hsz hcap
theorem sort_n (a : Option Addr) (cap : Nat) (w : World) :
    Calls Tryz.prog 75 #[.slice a 0 cap] w fun e w' => e = .returned (.tuple #[]) ∧ w' = w :=
  calls_of_every_depth fun D => AnyS.slices_Sort_string_none_alone YtnmmkechkcfjnaaGreatDoor.laysSort D a cap w
theorem compact_n (a : Option Addr) (cap : Nat) (w : World) :
    Calls Tryz.prog 76 #[.slice a 0 cap] w fun e w' => e = .returned (.slice a 0 cap) ∧ w' = w :=
  calls_of_every_depth fun D => AnyS.slices_Compact_string_empty_in YtnmmkechkcfjnaaGreatDoor.laysCompact D a cap w

end Go.Proofs.YtnmmkechkcfjnaaGreatDoor

/-
  The library's Sort and Compact at a row of the call's own.-/
namespace Go.Proofs.YtnmmkechkcfjnaaGreatDoor
set_option linter.unusedVariables false
set_option linter.unusedSimpArgs false
open Go.RowKit Go.Shelf Go.Sort

theorem sort_row {L : List (List UInt8)} {base : Nat} {v : Value} {w : World} (h : TRow w base v L) (hl : L.length ≤ 64) :
    Calls Tryz.prog 75 #[v] w fun e w' => e = .returned (.tuple #[]) ∧ TRow w' base v (L.mergeSort fun x y => decide (x ≤ y)) ∧ Below base w w' := by
  have hms : (L.mergeSort fun x y => decide (x ≤ y)).length = L.length := List.length_mergeSort L
  rcases h.2 with ⟨h0, h1⟩ | ⟨g, cap, cur, rfl, hbg, hg, hnc, hcm, hcs, htake⟩
  · have hl0 : L = [] := List.eq_nil_of_length_eq_zero h1
    subst hl0
    subst h0
    exact (sort_n none 0 w).mono fun e w' ⟨h2, h3⟩ => ⟨h2, by subst h3; simpa using h, by subst h3; exact Below.refl _ _⟩
  · obtain ⟨g', cap', e1, hbg', hgl, _, _, _, hH⟩ := Lib.holds_of_ownsRow (enc := encStr) h (by simp)
    injection e1 with e1 e2 e3
    injection e1 with e1
    injection e1 with e1 _ _
    subst e1 e3
    refine (sort_c g 0 cap L w hH hgl (by omega)).mono fun e w' ⟨h2, n, os, h3⟩ => ⟨h2, ?_, ?_⟩
    · subst h3
      have := ownsRow_sorted (n := n) (os := os) (ts := L.mergeSort fun x y => decide (x ≤ y)) (ss := L) hms hbg hg hnc hcm hcs
      rw [TRow, hms]
      exact this
    · subst h3
      exact (Below.refl base w).grown (grownBy_sorted _) (Nat.le_trans hbg' (Nat.le_of_lt hgl)) (fun j hj => by cases hj; exact hbg)
theorem compact_row {L : List (List UInt8)} {base : Nat} {v : Value} {w : World} (h : TRow w base v L) (hl : L.length ≤ 64) :
    Calls Tryz.prog 76 #[v] w fun e w' => ∃ v', e = .returned v' ∧ TRow w' base v' (Lib.compact L) ∧ Below base w w' := by
  have hle := Lib.compact_length_le L
  rcases h.2 with ⟨h0, h1⟩ | ⟨g, cap, cur, rfl, hbg, hg, hnc, hcm, hcs, htake⟩
  · have hl0 : L = [] := List.eq_nil_of_length_eq_zero h1
    subst hl0
    subst h0
    refine (compact_n none 0 w).mono fun e w' ⟨h2, h3⟩ => ⟨_, h2, ?_, by subst h3; exact Below.refl _ _⟩
    subst h3
    exact World.ownsRow_nil _ _ _ _
  · obtain ⟨g', cap', e1, hbg', hgl, _, _, _, hH⟩ := Lib.holds_of_ownsRow (enc := encStr) h (by simp)
    injection e1 with e1 e2 e3
    injection e1 with e1
    injection e1 with e1 _ _
    subst e1 e3
    refine (compact_c g 0 cap L w hH (by omega) hnc).mono fun e w' ⟨h2, q, h3⟩ => ⟨_, h2, ?_, ?_⟩
    · subst h3
      have hc := Lib.ownsRow_putRow (q := q) (k := (Lib.compact L).length) (ys := Lib.compact L ++ List.replicate (L.length - (Lib.compact L).length) []) h (by simp; omega) (by omega)
      rw [List.take_left] at hc
      exact hc
    · subst h3
      exact Lib.below_putRow (Below.refl base w) hbg

end Go.Proofs.YtnmmkechkcfjnaaGreatDoor

/-
  Walks: the crews at a minute, the crews that are due: the program's.-/
namespace Go.Proofs.YtnmmkechkcfjnaaGreatDoor
set_option linter.unusedVariables false
set_option linter.unusedSimpArgs false
open Go.RowKit Go.Sort

theorem CA1_any (s : ByteArray) (x y m : Int) (pb : Nat) (w : World) (hm : w.cell? ⟨pb, 0, none⟩ = some (.int .i64 m)) (hl : pb < w.heap.size) (hx : 0 ≤ y ∧ y ≤ 9999) :
    Calls Tryz.prog 54 #[.agg #[.string s, .int .i64 x, .int .i64 y], .pointer (some ⟨pb, 0, none⟩)] w fun e w' => e = .returned (.bool (inB m x (y - 1))) ∧ Below w.heap.size w w' := by
  go_enter Tryz.func54, Tryz.ntmps54
  go_wp2_with (go_at_call 32; refine (inside_any _ _ _ _).mono ?_; rintro e w' ⟨rfl, rfl⟩)
  go_ret
  exact ⟨rfl, (by repeat (first | (with_reducible exact Below.refl _ _) | (with_reducible refine below_ov ?_ ?_) | (with_reducible refine Below.setCell ?_ ?_ _) | (with_reducible refine Below.alloc ?_ ?_ _) | (with_reducible refine Below.drew ?_) | (with_reducible refine below_drewN ?_ _) | (refine Below.trans ?_ (Below.mono ‹Below _ _ _› (by first | omega | (simp; done) | (simp; omega)))) | exact Below.refl _ _ | omega | (focus (simp; done)) | (focus (simp; omega))))⟩
set_option maxRecDepth 100000 in
set_option maxHeartbeats 3200000 in
theorem withCrewsAt_any (c : Nat → ByteArray) (a b : Nat → Int) (n : Nat) (m : Int) (lo hi : Nat) (v : Value) (pb : Nat) (w : World) (hv : Sl w lo hi 3 v n (siiC c a b)) (hhi : hi ≤ w.heap.size) (hn : n ≤ 1048576) (hp : pdB c a b n = true) (hm : 0 ≤ m) (hm' : m ≤ 9999) (h1 : w.cell? ⟨pb, 0, none⟩ = some (.int .i64 m)) (l1 : pb < w.heap.size) :
    Calls Tryz.prog 53 #[v, .func (.func 54) #[] #[.pointer (some ⟨pb, 0, none⟩)]] w fun e w' => ∃ v', e = .returned v' ∧ TRow w' w.heap.size v' (putAll (sel c (caP a b m) n)) ∧ Below w.heap.size w w' := by
  obtain ⟨A, cap, rfl, hcap, hA⟩ := hv.open_
  obtain ⟨ii, hii, iz0, iz1, iz2⟩ := info_parts infoStrP
  have HP := hide hp
  have g1 := h1
  clear hp h1
  go_enter Tryz.func53, Tryz.ntmps53
  go_wp2_with fail
  go_loopw [5, 10] (fun o i wr => ∃ (k : Nat) (B : Option Addr) (cp : Nat), k ≤ n ∧ i = .int .i64 k ∧ o = .slice B (sel c (caP a b m) k).length cp ∧ Hid (TRow wr w.heap.size (.slice B (sel c (caP a b m) k).length cp) (sel c (caP a b m) k)) ∧ Below w.heap.size w wr) (fun _ i _ => n - (intOf i).toNat)
  case atStart => exact ⟨0, none, 0, by omega, rfl, rfl, World.ownsRow_nil _ _ _ _, Below.refl _ _⟩
  case round =>
    obtain ⟨k, B, cp, hk, rfl, rfl, hown, hb⟩ := hrel
    have hzr := hb.size
    have hn12 := (pd_facts HP.out).1
    have hL : (sel c (caP a b m) k).length ≤ k := sel_len
    by_cases hkn : k < n
    · obtain ⟨blk, off, rfl, h1, h2, h3⟩ := (hA.below hb (by omega)) (by omega)
      have c0 : wr.cell? ⟨blk, off + k * 3, none⟩ = some (.string (c k)) := h3 k 0 hkn (by omega)
      have c1 : wr.cell? ⟨blk, off + k * 3 + 1, none⟩ = some (.int .i64 (a k)) := h3 k 1 hkn (by omega)
      have c2 : wr.cell? ⟨blk, off + k * 3 + 2, none⟩ = some (.int .i64 (b k)) := h3 k 2 hkn (by omega)
      have l0 : blk < wr.heap.size := by omega
      clear h3 hA
      have hpk := (perB_iff.1 ((pd_facts HP.out).2 k hkn).1).2
      go_wp2_with fail
      refine (CA1_any (c k) (a k) (b k) m pb _ ((World.cell?_alloc_lt _ _ ⟨pb, 0, none⟩ (by show pb < _; omega)).trans ((hb.cell (p := ⟨pb, 0, none⟩) l1).trans g1)) (by simp; omega) (by omega)).mono ?_
      rintro e w4 ⟨rfl, hb4⟩
      have hz4 := hb4.size
      (try (simp at hz4))
      have ho4 := hide (row_below (hown.out.alloc _) hb4 (Nat.le_refl _))
      have pa := (hb4.cell (p := ⟨wr.heap.size, 0, none⟩) (by simp)).trans (World.cell?_alloc_new _ _ _ _)
      simp at pa
      have l4 : wr.heap.size < w4.heap.size := by omega
      cases e5 : inB m (a k) (b k - 1) with
      | true =>
        have hs := sel_yes (c := c) (p := caP a b m) (k := k) e5
        have HL : Hid ((sel c (caP a b m) (k + 1)).length = (sel c (caP a b m) k).length + 1) := by show _ = _; rw [hs]; simp
        have HV : Hid ((sel c (caP a b m) (k + 1)).map encStr = (sel c (caP a b m) k).map encStr ++ [.string (c k)]) := by
          show _ = _
          rw [hs]
          simp [ByteArray.toList_eq]
        clear hs
        go_wp2_with (at_builtin; refine wpList_append_own _ rfl _ _ 24 rfl w.heap.size 9 ii (.string ⟨#[]⟩) 1 16 Tryz.underlying24 hii iz0 iz1 iz2 rfl (by decide) _ _ _ rfl (ho4.out.alloc _) ⟨w4.heap.size, 0, none⟩ 1 1 [.string (c k)] rfl rfl (by intro i u hu; match i, hu with | 0, hu => (simp at hu; subst hu; simp [go_sem, Addr.add])) (by intro u hu; simp at hu; subst hu; rfl) (by unfold maxLen; omega) (by omega) (by simp; omega) ?_)
        intro v' w5 hown5 hg5 _
        have hb4w : Below w.heap.size w w4 := (by repeat (first | (with_reducible exact Below.refl _ _) | (with_reducible refine below_ov ?_ ?_) | (with_reducible refine Below.setCell ?_ ?_ _) | (with_reducible refine Below.alloc ?_ ?_ _) | (with_reducible refine Below.drew ?_) | (with_reducible refine below_drewN ?_ _) | (refine Below.trans ?_ (Below.mono ‹Below _ _ _› (by first | omega | (simp; done) | (simp; omega)))) | exact Below.refl _ _ | omega | (focus (simp; done)) | (focus (simp; omega))))
        have hb5 : Below w.heap.size w w5 := (hb4w.alloc (by omega) _).grown hg5 (by simp; omega) (fun g hg => (ho4.out.lt g hg).1)
        have hz5 := hb5.size
        obtain ⟨B2, cp2, rfl⟩ := row_form hown5
        have hown6 : Hid (TRow w5 w.heap.size (.slice B2 (sel c (caP a b m) (k + 1)).length cp2) (sel c (caP a b m) (k + 1))) := by
          show TRow _ _ _ _
          rw [TRow, HV.out, HL.out]
          exact hown5
        clear hown5 hg5 ho4
        go_wp2_with fail
        go_roundw
        case rel => exact ⟨k + 1, B2, cp2, by omega, by go_num, by rw [HL.out], hown6, hb5⟩
        case measure => simp [intOf]; omega
      | false =>
        have hs := sel_no (c := c) (p := caP a b m) (k := k) e5
        have HS := hide hs
        clear hs
        go_wp2_with fail
        go_roundw
        case rel => exact ⟨k + 1, B, cp, by omega, by go_num, by rw [HS.out], by rw [HS.out]; exact ho4, (by repeat (first | (with_reducible exact Below.refl _ _) | (with_reducible refine below_ov ?_ ?_) | (with_reducible refine Below.setCell ?_ ?_ _) | (with_reducible refine Below.alloc ?_ ?_ _) | (with_reducible refine Below.drew ?_) | (with_reducible refine below_drewN ?_ _) | (refine Below.trans ?_ (Below.mono ‹Below _ _ _› (by first | omega | (simp; done) | (simp; omega)))) | exact Below.refl _ _ | omega | (focus (simp; done)) | (focus (simp; omega))))⟩
        case measure => simp [intOf]; omega
    · obtain rfl : k = n := by omega
      go_wp2_with fail
      refine (sort_row hown.out (by omega)).mono ?_
      rintro e w2 ⟨rfl, ho2, hb2⟩
      have hz2 := hb2.size
      have ho2' := hide ho2
      clear ho2
      go_wp2_with fail
      refine (compact_row ho2'.out (by rw [List.length_mergeSort]; omega)).mono ?_
      rintro e w3 ⟨v3, rfl, ho3, hb3⟩
      have hz3 := hb3.size
      rw [sort_put] at ho3
      go_wp2_with fail
      go_ret
      exact ⟨_, rfl, ho3, (hb.trans hb2).trans hb3⟩
set_option maxRecDepth 100000 in
set_option maxHeartbeats 3200000 in
theorem CrewsAt_implR (c : Nat → ByteArray) (a b : Nat → Int) (n : Nat) (m : Int) (lo hi : Nat) (v : Value) (w : World) (hv : Sl w lo hi 3 v n (siiC c a b)) (hhi : hi ≤ w.heap.size) (hf : pfits c n) :
    Calls Tryz.prog 16 #[v, .int .i64 m] w (CrRes (caR c a b n m) (caOk c a b n m) w) := by
  obtain ⟨A, cap, rfl, hcap, hA⟩ := hv.open_
  have hn := hf.1
  cases hc1_0 : pdB c a b n with
  | false =>
    have HX : Hid (caOk c a b n m = false) := by show _ = _; simp [caOk, *]
    have HR : Hid (caR c a b n m = []) := by show _ = _; rw [caR, HX.out]; rfl
    go_enter Tryz.func16, Tryz.ntmps16
    go_wp2_with fail
    refine (arePeriods_any c a b n lo hi _ _ (hv.below (B := w.heap.size) (by repeat (first | (with_reducible exact Below.refl _ _) | (with_reducible refine below_ov ?_ ?_) | (with_reducible refine Below.setCell ?_ ?_ _) | (with_reducible refine Below.alloc ?_ ?_ _) | (with_reducible refine Below.drew ?_) | (with_reducible refine below_drewN ?_ _) | (refine Below.trans ?_ (Below.mono ‹Below _ _ _› (by first | omega | (simp; done) | (simp; omega)))) | exact Below.refl _ _ | omega | (focus (simp; done)) | (focus (simp; omega)))) hhi) (by simp; omega) hf).mono ?_
    rintro e w1 ⟨rfl, hb1⟩
    have hz1 := hb1.size
    (try (simp at hz1))
    have pa := (hb1.cell (p := ⟨w.heap.size, 0, none⟩) (by simp)).trans (World.cell?_alloc_new _ _ _ _)
    simp at pa
    go_wp2_with (first | (go_at_call 31; refine (isMinute_any _ _).mono ?_; rintro e w' ⟨rfl, rfl⟩) | (go_at_call 32; refine (inside_any _ _ _ _).mono ?_; rintro e w' ⟨rfl, rfl⟩))
    go_ret2
    rw [HX.out, HR.out]
    exact cr_nil (by repeat (first | (with_reducible exact Below.refl _ _) | (with_reducible refine below_ov ?_ ?_) | (with_reducible refine Below.setCell ?_ ?_ _) | (with_reducible refine Below.alloc ?_ ?_ _) | (with_reducible refine Below.drew ?_) | (with_reducible refine below_drewN ?_ _) | (refine Below.trans ?_ (Below.mono ‹Below _ _ _› (by first | omega | (simp; done) | (simp; omega)))) | exact Below.refl _ _ | omega | (focus (simp; done)) | (focus (simp; omega))))
  | true =>
    cases hc1_1 : inB m 0 9999 with
    | false =>
      have HX : Hid (caOk c a b n m = false) := by show _ = _; simp [caOk, *]
      have HR : Hid (caR c a b n m = []) := by show _ = _; rw [caR, HX.out]; rfl
      go_enter Tryz.func16, Tryz.ntmps16
      go_wp2_with fail
      refine (arePeriods_any c a b n lo hi _ _ (hv.below (B := w.heap.size) (by repeat (first | (with_reducible exact Below.refl _ _) | (with_reducible refine below_ov ?_ ?_) | (with_reducible refine Below.setCell ?_ ?_ _) | (with_reducible refine Below.alloc ?_ ?_ _) | (with_reducible refine Below.drew ?_) | (with_reducible refine below_drewN ?_ _) | (refine Below.trans ?_ (Below.mono ‹Below _ _ _› (by first | omega | (simp; done) | (simp; omega)))) | exact Below.refl _ _ | omega | (focus (simp; done)) | (focus (simp; omega)))) hhi) (by simp; omega) hf).mono ?_
      rintro e w1 ⟨rfl, hb1⟩
      have hz1 := hb1.size
      (try (simp at hz1))
      have pa := (hb1.cell (p := ⟨w.heap.size, 0, none⟩) (by simp)).trans (World.cell?_alloc_new _ _ _ _)
      simp at pa
      go_wp2_with (first | (go_at_call 31; refine (isMinute_any _ _).mono ?_; rintro e w' ⟨rfl, rfl⟩) | (go_at_call 32; refine (inside_any _ _ _ _).mono ?_; rintro e w' ⟨rfl, rfl⟩))
      go_ret2
      rw [HX.out, HR.out]
      exact cr_nil (by repeat (first | (with_reducible exact Below.refl _ _) | (with_reducible refine below_ov ?_ ?_) | (with_reducible refine Below.setCell ?_ ?_ _) | (with_reducible refine Below.alloc ?_ ?_ _) | (with_reducible refine Below.drew ?_) | (with_reducible refine below_drewN ?_ _) | (refine Below.trans ?_ (Below.mono ‹Below _ _ _› (by first | omega | (simp; done) | (simp; omega)))) | exact Below.refl _ _ | omega | (focus (simp; done)) | (focus (simp; omega))))
    | true =>
      obtain ⟨hc1_1l, hc1_1r⟩ := inB_iff.1 hc1_1
      have HX : Hid (caOk c a b n m = true) := by show _ = _; simp [caOk, *]
      have HP : Hid (pdB c a b n = true) := by show _ = _; assumption
      have HR : Hid (caR c a b n m = putAll (sel c (caP a b m) n)) := by show _ = _; rw [caR, if_pos HX.out]
      go_enter Tryz.func16, Tryz.ntmps16
      go_wp2_with fail
      refine (arePeriods_any c a b n lo hi _ _ (hv.below (B := w.heap.size) (by repeat (first | (with_reducible exact Below.refl _ _) | (with_reducible refine below_ov ?_ ?_) | (with_reducible refine Below.setCell ?_ ?_ _) | (with_reducible refine Below.alloc ?_ ?_ _) | (with_reducible refine Below.drew ?_) | (with_reducible refine below_drewN ?_ _) | (refine Below.trans ?_ (Below.mono ‹Below _ _ _› (by first | omega | (simp; done) | (simp; omega)))) | exact Below.refl _ _ | omega | (focus (simp; done)) | (focus (simp; omega)))) hhi) (by simp; omega) hf).mono ?_
      rintro e w1 ⟨rfl, hb1⟩
      have hz1 := hb1.size
      (try (simp at hz1))
      have pa := (hb1.cell (p := ⟨w.heap.size, 0, none⟩) (by simp)).trans (World.cell?_alloc_new _ _ _ _)
      simp at pa
      go_wp2_with (first | (go_at_call 31; refine (isMinute_any _ _).mono ?_; rintro e w' ⟨rfl, rfl⟩) | (go_at_call 32; refine (inside_any _ _ _ _).mono ?_; rintro e w' ⟨rfl, rfl⟩))
      refine (withCrewsAt_any c a b n m lo hi _ w.heap.size _ (hv.below (B := w.heap.size) (by repeat (first | (with_reducible exact Below.refl _ _) | (with_reducible refine below_ov ?_ ?_) | (with_reducible refine Below.setCell ?_ ?_ _) | (with_reducible refine Below.alloc ?_ ?_ _) | (with_reducible refine Below.drew ?_) | (with_reducible refine below_drewN ?_ _) | (refine Below.trans ?_ (Below.mono ‹Below _ _ _› (by first | omega | (simp; done) | (simp; omega)))) | exact Below.refl _ _ | omega | (focus (simp; done)) | (focus (simp; omega)))) hhi) (by omega) hn HP.out (by omega) (by omega) pa (by first | omega | (simp; done) | (simp; omega))).mono ?_
      rintro e w2 ⟨v2, rfl, ho2, hb2⟩
      have hz2 := hb2.size
      go_wp2_with fail
      go_ret2
      rw [HX.out, HR.out]
      exact ⟨_, rfl, ho2.mono (by omega), (by repeat (first | (with_reducible exact Below.refl _ _) | (with_reducible refine below_ov ?_ ?_) | (with_reducible refine Below.setCell ?_ ?_ _) | (with_reducible refine Below.alloc ?_ ?_ _) | (with_reducible refine Below.drew ?_) | (with_reducible refine below_drewN ?_ _) | (refine Below.trans ?_ (Below.mono ‹Below _ _ _› (by first | omega | (simp; done) | (simp; omega)))) | exact Below.refl _ _ | omega | (focus (simp; done)) | (focus (simp; omega))))⟩
theorem CrewsAt_impl (c : Nat → ByteArray) (a b : Nat → Int) (n : Nat) (m : Int) (lo hi : Nat) (v : Value) (w : World) (hv : Sl w lo hi 3 v n (siiC c a b)) (hhi : hi ≤ w.heap.size) (hf : pfits c n) :
    Calls Tryz.prog 16 #[v, .int .i64 m] w fun e w' => ∃ v', e = .returned (.tuple #[v', .bool (caOk c a b n m)]) ∧ Own w' w.heap.size w'.heap.size 9 1 v' (caN c a b n m) (caN c a b n m) (sC (caS c a b n m)) ∧ Below w.heap.size w w' :=
  (CrewsAt_implR c a b n m lo hi v w hv hhi hf).mono fun _ _ h => h.own

end Go.Proofs.YtnmmkechkcfjnaaGreatDoor

/-
  Closed facts on the whole program that every card of this seat asks.-/
namespace Go.Proofs.YtnmmkechkcfjnaaGreatDoor
set_option linter.unusedVariables false
set_option linter.unusedSimpArgs false
open Go

theorem Tryz.mainIs0 : Tryz.pinned.checked.prog.mainIs = some (((true, "726e088766344e0ef60f6d94815a75c5e7821cfa5ca2f4ee28aba11135bfb0fd") : Bool × String).1, ((true, "726e088766344e0ef60f6d94815a75c5e7821cfa5ca2f4ee28aba11135bfb0fd") : Bool × String).2.toList) := by kernel_rfl
theorem Tryz.looks0 : false = Tryz.pinned.checked.prog.looks [] := by kernel_rfl

end Go.Proofs.YtnmmkechkcfjnaaGreatDoor
