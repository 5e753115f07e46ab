/-
  Texts of this proof, one behind the other (part 18).
-/
import Derived.Test.YtpckhpkbdanjoaaDoorQ17
/-
  Walks: a way with one hand at a wall: the reference's.-/
namespace Go.Proofs.YtpckhpkbdanjoaaDoor
set_option linter.unusedVariables false
set_option linter.unusedSimpArgs false
open Go.RowKit

theorem infoBool : (Tryd.prog.info? 4).map (fun i => (i.zero, i.size, i.bytes)) = some (some (.bool false), 1, 1) := by kernel_rfl
set_option maxRecDepth 100000 in
set_option maxHeartbeats 6400000 in
theorem seHand_any (F : Nat → ByteArray) (n : Nat) (r c : Int) (b : Bool) (lo hi : Nat) (v : Value) (w : World) (hv : Sl w lo hi 1 v n (sC F)) (hhi : hi ≤ w.heap.size) (hg : flB F n = true) (ho : opB F n r c = true) :
    Calls Tryd.prog 64 #[v, .agg #[.int .i64 r, .int .i64 c], .bool b] w (HwRow F n b (r, c) w) := by
  obtain ⟨A, cap, rfl, hcap, hA⟩ := id hv.open_
  obtain ⟨g1, g2, g3, g4, _, _⟩ := flB_facts hg
  obtain ⟨blk, off, rfl, h1, h2, h3⟩ := hA (by omega)
  have c0 : w.cell? ⟨blk, off, none⟩ = some (.string (F 0)) := by simpa [sC] using h3 0 0 (by omega) (by omega)
  have l0 : blk < w.heap.size := by omega
  have l1 : blk < w.heap.size + 1 := by omega
  have l2 : blk < w.heap.size + 1 + 1 := by omega
  have l3 : blk < w.heap.size + 1 + 1 + 1 := by omega
  have har := fl_area hg
  obtain ⟨M, hM⟩ : ∃ M, M = 4 * (n * (F 0).size) := ⟨_, rfl⟩
  have y1 : IntKind.i64.wrap (4 * (n : Int)) = 4 * (n : Int) := IntWalk.i64_in _ (by omega)
  have y2 : (4 * (n : Int)) * ((F 0).size : Int) = (M : Int) := by rw [hM]; push_cast; rw [Int.mul_assoc]
  have y3 : IntKind.i64.wrap (4 * (n : Int) * ((F 0).size : Int)) = (M : Int) := by rw [y2]; exact IntWalk.i64_in _ (by omega)
  have HV := hide hv
  have HG := hide hg
  have HA : Hid (opP F n (r, c) = true) := ho
  have HM4 := hide hM
  have hM576 : M ≤ 576 := by omega
  have hM4 : 4 ≤ M := by omega
  obtain ⟨ii, hii, iz0, iz1, iz2⟩ := info_parts infoCell2
  obtain ⟨ib, hib, jz0, jz1, jz2⟩ := info_parts infoBool
  clear hv hg ho hA h3 hM har y2
  cases b with
  | true =>
    go_enter Tryd.func64, Tryd.ntmps64
    go_wp2_with (at_make; refine wpList_make_full _ rfl (.tmp 27) (.tmp 27) 108 rfl w.heap.size 4 ib (.bool false) 1 Tryd.underlying108 hib jz0 jz1 .i64 .i64 M M M rfl rfl rfl rfl (by rw [jz2]; omega) (by unfold maxLen; omega) (by first | omega | (simp; done) | (simp; omega)) ?_)
    intro W0 hown hgr
    obtain ⟨ab, hab⟩ : ∃ ab, ab = w.heap.size := ⟨_, rfl⟩
    obtain ⟨tb, htb⟩ : ∃ tb, tb = w.heap.size + 3 := ⟨_, rfl⟩
    obtain ⟨g, hgb⟩ : ∃ g, g = w.heap.size + 4 := ⟨_, rfl⟩
    obtain ⟨yb, hyb⟩ : ∃ yb, yb = w.heap.size + 1 := ⟨_, rfl⟩
    have b2 : Below (w.heap.size + 4) ((((w.alloc (.cells #[.int .i64 r, .int .i64 c] 38)).alloc (.cells #[.int .i64 r, .int .i64 c] 38)).alloc (.cells #[.int .i64 1, .int .i64 0, .int .i64 3, .int .i64 2] 3)).alloc (.cells #[.int .i64 3, .int .i64 0, .int .i64 1, .int .i64 2] 3)) W0 := (Below.refl _ _).grown hgr (by simp) (fun k h => by cases h)
    have HM0 : Hid (HMem w W0 ab tb true (r, c) 0 (.slice (some ⟨yb, 0, none⟩) 1 1) (hwR F n true (r, c)) (hwC F n true (r, c))) := by
      refine ⟨?_, ?_, ?_, by omega, by omega, Below.trans (b := (((w.alloc (.cells #[.int .i64 r, .int .i64 c] 38)).alloc (.cells #[.int .i64 r, .int .i64 c] 38)).alloc (.cells #[.int .i64 1, .int .i64 0, .int .i64 3, .int .i64 2] 3)).alloc (.cells #[.int .i64 3, .int .i64 0, .int .i64 1, .int .i64 2] 3)) (by repeat (first | (with_reducible exact Below.refl _ _) | (with_reducible refine below_ov ?_ ?_) | (with_reducible refine Below.setCell ?_ ?_ _) | (with_reducible refine Below.alloc ?_ ?_ _) | (with_reducible refine Below.drew ?_) | (with_reducible refine below_drewN ?_ _) | (refine Below.trans ?_ (Below.mono ‹Below _ _ _› (by first | omega | (simp; done) | (simp; omega)))) | exact Below.refl _ _ | omega | (focus (simp; done)) | (focus (simp; omega)))) (b2.mono (by omega))⟩
      · rw [hab]
        refine Bx2.below (B := w.heap.size + 1) ?_ ?_ (by omega) (w := w.alloc (.cells #[.int .i64 r, .int .i64 c] 38))
        · exact Bx2.new w r c
        · exact Below.trans (b := (((w.alloc (.cells #[.int .i64 r, .int .i64 c] 38)).alloc (.cells #[.int .i64 r, .int .i64 c] 38)).alloc (.cells #[.int .i64 1, .int .i64 0, .int .i64 3, .int .i64 2] 3)).alloc (.cells #[.int .i64 3, .int .i64 0, .int .i64 1, .int .i64 2] 3)) (by repeat (first | (with_reducible exact Below.refl _ _) | (with_reducible refine below_ov ?_ ?_) | (with_reducible refine Below.setCell ?_ ?_ _) | (with_reducible refine Below.alloc ?_ ?_ _) | (with_reducible refine Below.drew ?_) | (with_reducible refine below_drewN ?_ _) | (refine Below.trans ?_ (Below.mono ‹Below _ _ _› (by first | omega | (simp; done) | (simp; omega)))) | exact Below.refl _ _ | omega | (focus (simp; done)) | (focus (simp; omega)))) (b2.mono (by omega))
      · rw [htb, b2.block _ (by omega)]
        have h := heap_alloc_new ((((w.alloc (.cells #[.int .i64 r, .int .i64 c] 38)).alloc (.cells #[.int .i64 r, .int .i64 c] 38)).alloc (.cells #[.int .i64 1, .int .i64 0, .int .i64 3, .int .i64 2] 3))) (.cells #[.int .i64 3, .int .i64 0, .int .i64 1, .int .i64 2] 3)
        simp at h
        simpa [trn] using h
      · have h := World.ownsRow_lit (base := ab + 1) (e := 38) (size := 2) (w.alloc (.cells #[.int .i64 r, .int .i64 c] 38)) #[.int .i64 r, .int .i64 c] 1 (by simp; omega) (by unfold maxLen; omega) rfl
        have h2 := row_below h (B := w.heap.size + 2) (w' := W0) (Below.trans (b := (((w.alloc (.cells #[.int .i64 r, .int .i64 c] 38)).alloc (.cells #[.int .i64 r, .int .i64 c] 38)).alloc (.cells #[.int .i64 1, .int .i64 0, .int .i64 3, .int .i64 2] 3)).alloc (.cells #[.int .i64 3, .int .i64 0, .int .i64 1, .int .i64 2] 3)) (by repeat (first | (with_reducible exact Below.refl _ _) | (with_reducible refine below_ov ?_ ?_) | (with_reducible refine Below.setCell ?_ ?_ _) | (with_reducible refine Below.alloc ?_ ?_ _) | (with_reducible refine Below.drew ?_) | (with_reducible refine below_drewN ?_ _) | (refine Below.trans ?_ (Below.mono ‹Below _ _ _› (by first | omega | (simp; done) | (simp; omega)))) | exact Below.refl _ _ | omega | (focus (simp; done)) | (focus (simp; omega)))) (b2.mono (by omega))) (by simp)
        rw [hyb]
        simpa [rowL, iiC, hwR, hwC, hwP_zero, List.range, List.range.loop] using h2
    have HD0 : Hid (OwnL W0 g (g + 1) 4 1 (.slice (some ⟨g, 0, none⟩) M M) M M (fun i => .bool (hwD F n true (r, c) 0 i))) := by
      rw [toList_madeCells_one, bool_row] at hown
      have h := row_at hown (by omega) rfl
      show OwnL _ _ _ _ _ _ _ _ _
      rw [hgb]
      rw [Nat.mul_one] at h
      simpa [hwD] using h
    have hzW : g < W0.heap.size := by have := (hown.lt _ rfl).2; simp at this; omega
    have LG0 : Hid (ab ≠ g ∧ tb ≠ g ∧ w.heap.size ≤ g) := by show _ ∧ _ ∧ _; omega
    rw [← hgb, ← htb, ← hyb, ← hab]
    clear b2 hab htb hgb hyb hown hgr
    go_wp2_with fail
    go_loopg [7, 10] (4 * (n * (F 0).size) + 1) (fun gn wv lv wr => ∃ t : Nat, lv = .int .i64 (hwL F n true (r, c) t : Nat) ∧ 4 * (n * (F 0).size) - t < gn ∧ Hid (∀ s, s < t → hwX F n true (r, c) s = false) ∧ Hid (HMem w wr ab tb true (hwP F n true (r, c) t) t wv (hwR F n true (r, c)) (hwC F n true (r, c))) ∧ Hid (OwnL wr g (g + 1) 4 1 (.slice (some ⟨g, 0, none⟩) M M) M M (fun i => .bool (hwD F n true (r, c) t i))) ∧ g < wr.heap.size)
    case atStart => exact ⟨0, by rw [hwL_zero]; rfl, by omega, fun s hs => absurd hs (Nat.not_lt_zero _), HM0.out, HD0.out, hzW⟩
    case round =>
      obtain ⟨t, rfl, hgt, HX, HM, HS, hgl⟩ := hrel
      have HOP : Hid (opP F n (hwP F n true (r, c) t) = true) := hwP_open HA.out HX.out
      have hl4 := hwL_lt (F := F) (n := n) (b := true) (a := (r, c)) t
      have hcl := hwC_lt HOP.out
      obtain ⟨l, hl⟩ : ∃ l, l = hwL F n true (r, c) t := ⟨_, rfl⟩
      rw [← hl] at hl4
      rw [← hl]
      have HL := hide hl
      clear hl
      obtain ⟨p, hp⟩ : ∃ p, p = hwP F n true (r, c) t := ⟨_, rfl⟩
      rw [← hp] at HM HOP
      have HPP := hide hp
      clear hp
      have HCL := hide hcl
      clear hcl
      have ht576 : t ≤ 576 := by
        have h1 := hw_le HA.out HX.out
        have h2 := (fl_area HG.out).2
        omega
      obtain ⟨wo, ewo⟩ : ∃ wo : World, wo = wr := ⟨_, rfl⟩
      subst ewo
      go_wp2_with fail
      go_loopg [11, 31] 5 (fun gn dv jv wr => ∃ j : Nat, dv = .int .i64 (hdJ F n true p l j) ∧ jv = .int .i64 j ∧ j ≤ 4 ∧ 4 - j < gn ∧ Hid (Below wo.heap.size wo wr))
      case atStart => exact ⟨0, rfl, rfl, by omega, by omega, Below.refl _ _⟩
      case round =>
        obtain ⟨j, rfl, rfl, hj, hgj, HB⟩ := hrel
        have M1 := hide (HM.out.below HB.out)
        have hz := M1.out.bel.size
        obtain ⟨b1, b2, b3, b4⟩ := opP_bd HOP.out
        obtain ⟨g1, g2, g3, g4, _, _⟩ := flB_facts HG.out
        have hJb := hdJ_bd (F := F) (n := n) (b := true) (p := p) (l := l) j
        by_cases hj4 : j < 4
        · have htc := M1.out.turn hj4
          have ltb := M1.out.tlt
          have hd4 := hdI_lt true l j
          obtain ⟨z1, z2⟩ := hdI_rem true l j hl4 hj4
          have HN : Hid (hdJ F n true p l (j + 1) = if hdJ F n true p l j < 0 ∧ opP F n (stp p (hdI true l j)) = true then (hdI true l j : Int) else hdJ F n true p l j) := rfl
          obtain ⟨d, hd⟩ : ∃ d, d = hdI true l j := ⟨_, rfl⟩
          rw [← hd] at hd4 z2 HN
          obtain ⟨tj, htj⟩ : ∃ tj, tj = trn true j := ⟨_, rfl⟩
          rw [← htj] at htc z1 z2
          obtain ⟨y, hy⟩ : ∃ y, stp p d = y := ⟨_, rfl⟩
          rw [hy] at HN
          have HY := hide hy
          obtain ⟨J, hJ⟩ : ∃ J, J = hdJ F n true p l j := ⟨_, rfl⟩
          rw [← hJ] at HN hJb
          rw [← hJ]
          obtain ⟨p0, p1, pf, pl⟩ := M1.out.box
          clear hd htj hy hJ
          by_cases hJn : J < 0
          · have dJ : decide (J < 0) = true := decide_eq_true hJn
            go_wp2_with fail
            refine (seStep_p p y d _ HY.out hd4 (by omega) (by omega) (by omega) (by omega)).mono ?_
            rintro e w2 ⟨rfl, hb2⟩
            have M2 := hide (M1.out.below hb2)
            have HB2 : Hid (Below wo.heap.size wo w2) := HB.out.trans (hb2.mono HB.out.size)
            clear p0 p1 pf pl htc hb2
            go_wp2_with fail
            refine (seOpen_any F n y.1 y.2 lo hi _ _ (HV.out.below (B := w.heap.size) M2.out.bel hhi) (by have := M2.out.bel.size; omega) HG.out).mono ?_
            rintro e w3 ⟨rfl, hb3⟩
            have HB3 : Hid (Below wo.heap.size wo w3) := HB2.out.trans (hb3.mono HB2.out.size)
            clear hb3
            cases e1 : opB F n y.1 y.2 with
            | false =>
              have HN2 : Hid (hdJ F n true p l (j + 1) = J) := by show _ = _; rw [HN.out, if_neg (by rw [show opP F n y = false from e1]; simp)]
              go_wp2_with fail
              go_roundg (4 - j)
              case measure => omega
              case rel => exact ⟨j + 1, by rw [HN2.out], by go_num, by omega, by omega, HB3.out⟩
            | true =>
              have HN2 : Hid (hdJ F n true p l (j + 1) = (d : Int)) := by show _ = _; rw [HN.out, if_pos ⟨hJn, e1⟩]
              go_wp2_with fail
              go_roundg (4 - j)
              case measure => omega
              case rel => exact ⟨j + 1, by rw [HN2.out], by go_num, by omega, by omega, HB3.out⟩
          · have dJ : decide (J < 0) = false := decide_eq_false hJn
            have HN2 : Hid (hdJ F n true p l (j + 1) = J) := by show _ = _; rw [HN.out, if_neg (by omega)]
            go_wp2_with fail
            go_roundg (4 - j)
            case measure => omega
            case rel => exact ⟨j + 1, by rw [HN2.out], by go_num, by omega, by omega, HB.out⟩
        · obtain rfl : j = 4 := by omega
          have HHJ : Hid (hwJ F n true (r, c) t = hdJ F n true p l 4) := by
            show hdJ F n true (hwP F n true (r, c) t) (hwL F n true (r, c) t) 4 = _
            rw [← HPP.out, ← HL.out]
          have D1 : Hid (OwnL wr g (g + 1) 4 1 (.slice (some ⟨g, 0, none⟩) M M) M M (fun i => .bool (hwD F n true (r, c) t i))) := HS.out.keep1 (HB.out.block _ hgl)
          have hgl1 : g < wr.heap.size := by have := HB.out.size; omega
          obtain ⟨J, hJ⟩ : ∃ J, J = hdJ F n true p l 4 := ⟨_, rfl⟩
          rw [← hJ] at HHJ hJb
          rw [← hJ]
          clear hJ
          by_cases hJn : J < 0
          · have dJ : decide (J < 0) = true := decide_eq_true hJn
            have HXE : Hid (hwX F n true (r, c) t = true) := by show _ = _; rw [hwX, HHJ.out, dJ]; rfl
            go_wp2_with fail
            go_ret
            exact hw_end HA.out HX.out HXE.out M1.out
          · have dJ : decide (J < 0) = false := decide_eq_false hJn
            obtain ⟨d, rfl⟩ : ∃ d : Nat, J = d := ⟨J.toNat, by omega⟩
            have hd4 : d < 4 := by omega
            have HXE : Hid (hwX F n true (r, c) t = hwD F n true (r, c) t (4 * ixF F p + d)) := by
              show _ = _
              rw [hwX, HHJ.out, hwCd, HHJ.out, ← HPP.out, dJ]
              rfl
            have HCD : Hid (hwCd F n true (r, c) t = 4 * ixF F p + d) := by show _ = _; rw [hwCd, HHJ.out, ← HPP.out]; rfl
            have hix : ixF F p < n * (F 0).size := ix_lt HOP.out
            have har := (fl_area HG.out).2
            have hkM : 4 * ixF F p + d < M := by have := HM4.out; omega
            obtain ⟨ix, hixe⟩ : ∃ ix, ix = ixF F p := ⟨_, rfl⟩
            rw [← hixe] at hix hkM HXE HCD
            obtain ⟨k, hk⟩ : ∃ k, k = 4 * ix + d := ⟨_, rfl⟩
            rw [← hk] at hkM HXE HCD
            have HIX := hide hixe
            have z1 : IntKind.i64.wrap (4 * (ix : Int)) = 4 * (ix : Int) := IntWalk.i64_in _ (by omega)
            have z2 : IntKind.i64.wrap (4 * (ix : Int) + (d : Int)) = (k : Int) := by rw [IntWalk.i64_in _ (by omega)]; omega
            obtain ⟨p0, p1, pf, pl⟩ := M1.out.box
            have HZ := hide (And.intro z1 z2)
            clear hixe hk z1 z2
            go_wp2_with fail
            refine (seIndex_p F n p lo hi _ _ (HV.out.below (B := w.heap.size) M1.out.bel hhi) (by omega) HG.out HOP.out).mono ?_
            rintro e w2 ⟨rfl, hb2⟩
            rw [← HIX.out]
            have M2 := hide (M1.out.below hb2)
            have D2 := hide (D1.out.keep1 (hb2.block _ hgl1))
            have hgl2 : g < w2.heap.size := Nat.lt_of_lt_of_le hgl1 hb2.size
            clear p0 p1 pf pl hb2
            obtain ⟨_, hfk, hck0⟩ := D2.out.cell (by omega) (o := k) (by omega)
            have hck := hck0 hkM
            clear hck0
            obtain ⟨qb, hqb⟩ : ∃ qb, hwD F n true (r, c) t k = qb := ⟨_, rfl⟩
            rw [hqb] at hck HXE
            have HQB := hide hqb
            clear hqb
            obtain ⟨z1, z2⟩ := HZ.out
            obtain ⟨p0, p1, pf, pl⟩ := M2.out.box
            cases qb with
            | true =>
              go_wp2_with fail
              go_ret
              exact hw_end HA.out HX.out HXE.out M2.out
            | false =>
              have HX2 : Hid (∀ s, s < t + 1 → hwX F n true (r, c) s = false) := upto_snocF (p := hwX F n true (r, c)) HX.out HXE.out
              have z1' := z1
              clear z1
              have z1 := z1'
              go_wp2_with fail
              refine (seIndex_p F n p lo hi _ _ (HV.out.below (B := w.heap.size) M2.out.bel hhi) (by have := M2.out.bel.size; omega) HG.out HOP.out).mono ?_
              rintro e w4 ⟨rfl, hb4⟩
              rw [← HIX.out]
              have M4 := hide (M2.out.below hb4)
              have D4 := hide (D2.out.keep1 (hb4.block _ hgl2))
              have hgl4 : g < w4.heap.size := Nat.lt_of_lt_of_le hgl2 hb4.size
              clear p0 p1 pf pl hb4 hck hfk
              obtain ⟨⟨u0, hu0⟩, hfk, _⟩ := D4.out.cell (by omega) (o := k) (by omega)
              obtain ⟨p0, p1, pf, pl⟩ := M4.out.box
              have hng : ¬ g = ab := fun e => LG0.out.1 e.symm
              have hng' : ¬ ab = g := LG0.out.1
              go_wp2_with fail
              obtain ⟨W5, hW5⟩ : ∃ W5, W5 = w4.setCell ⟨g, k, none⟩ (.bool true) := ⟨_, rfl⟩
              rw [← hW5]
              have hbl : ∀ q, q ≠ g → W5.heap[q]? = w4.heap[q]? := fun q hq => by rw [hW5]; exact Deep.blk_setCell_other _ _ _ _ hq
              have hs5 : W5.heap.size = w4.heap.size := by rw [hW5]; simp [World.setCell]
              obtain ⟨cs, hcs⟩ := D4.out.heap_ (by omega)
              have M5 : Hid (HMem w W5 ab tb true p t u7 (hwR F n true (r, c)) (hwC F n true (r, c))) :=
                M4.out.keep (fun q hq h => hbl q (M4.out.apart hcs (fun _ _ h => by injection h with _ h _; exact absurd h (by decide)) (fun _ _ h => by injection h with _ h _; exact absurd h (by decide)) LG0.out.1.symm q hq h)) (by omega) (by rw [hW5]; exact M4.out.bel.setCell LG0.out.2.2 _)
              have D5 : Hid (OwnL W5 g (g + 1) 4 1 (.slice (some ⟨g, 0, none⟩) M M) M M (fun i => .bool (hwD F n true (r, c) (t + 1) i))) := by
                show OwnL _ _ _ _ _ _ _ _ _
                rw [hW5]
                refine (D4.out.set (o := k) (by omega) _).congr fun o _ => ?_
                rw [hwD, orP, HCD.out]
                by_cases e : o = k
                · simp [e]
                · simp [e]
              have hgl5 : g < W5.heap.size := by omega
              obtain ⟨y, hy⟩ : ∃ y, stp p d = y := ⟨_, rfl⟩
              have HY := hide hy
              have HPY : Hid (hwP F n true (r, c) (t + 1) = y) := by show _ = _; rw [hwP_next, HHJ.out, ← HPP.out]; exact hy
              have HLY : Hid (hwL F n true (r, c) (t + 1) = d) := by show _ = _; rw [hwL_next, HHJ.out]; rfl
              clear hy hW5 hbl hs5 p0 p1 pf pl hu0 hfk hcs
              refine (seStep_p p y d _ HY.out hd4 (by omega) (by omega) (by omega) (by omega)).mono ?_
              rintro e w6 ⟨rfl, hb6⟩
              have M6 := hide (M5.out.below hb6)
              have D6 := hide (D5.out.keep1 (hb6.block _ hgl5))
              have hgl6 : g < w6.heap.size := Nat.lt_of_lt_of_le hgl5 hb6.size
              have M7 := hide (M6.out.move y.1 y.2)
              have D7 : Hid (OwnL ((w6.setCell ⟨ab, 0, none⟩ (.int .i64 y.1)).setCell ⟨ab, 1, none⟩ (.int .i64 y.2)) g (g + 1) 4 1 (.slice (some ⟨g, 0, none⟩) M M) M M (fun i => .bool (hwD F n true (r, c) (t + 1) i))) :=
                D6.out.keep1 ((Deep.blk_setCell_other _ _ _ _ (by exact hng)).trans (Deep.blk_setCell_other _ _ _ _ (by exact hng)))
              clear hb6
              obtain ⟨p0, p1, pf, pl⟩ := M6.out.box
              have hal := M6.out.al
              go_wp2_with (at_builtin; refine wpList_append_own _ rfl _ _ 26 rfl (ab + 1) 38 ii (.agg #[.int .i64 0, .int .i64 0]) 2 16 Tryd.underlying26 hii iz0 iz1 iz2 rfl (by decide) _ _ _ rfl (M7.out.row.alloc _) ⟨_, 0, none⟩ 1 1 [.int .i64 y.1, .int .i64 y.2] rfl rfl ?_ ?_ ?_ ?_ ?_ ?_)
              · intro i u hu
                match i, hu with
                | 0, hu => simp at hu; subst hu; simp [go_sem, Addr.add, World.setCell]
                | 1, hu => simp at hu; subst hu; simp [go_sem, Addr.add, World.setCell]
              · intro u hu; simp at hu; rcases hu with rfl | rfl <;> rfl
              · unfold maxLen; omega
              · omega
              · simp [World.setCell]; omega
              intro v' w8 hown8 hg8 _
              have M8 : Hid (HMem w w8 ab tb true y (t + 1) v' (hwR F n true (r, c)) (hwC F n true (r, c))) := by
                refine M7.out.more _ ?_ hg8
                have e : rowL (iiC (hwR F n true (r, c)) (hwC F n true (r, c))) 2 (t + 1 + 1) = rowL (iiC (hwR F n true (r, c)) (hwC F n true (r, c))) 2 (t + 1) ++ [.int .i64 y.1, .int .i64 y.2] := by
                  rw [rowL, ← HPY.out]; rfl
                rw [e]
                exact hown8
              have D8 : Hid (OwnL w8 g (g + 1) 4 1 (.slice (some ⟨g, 0, none⟩) M M) M M (fun i => .bool (hwD F n true (r, c) (t + 1) i))) := by
                obtain ⟨cs, hcs⟩ := D7.out.heap_ (by omega)
                exact D7.out.keep1 ((hg8.block g (by simp [World.setCell]; omega) (fun e => row_apart M7.out.row hcs (fun _ _ h => by injection h with _ h _; exact absurd h (by decide)) _ e.symm rfl)).trans (Deep.blk_alloc_lt _ _ _ (by simp [World.setCell]; omega)))
              have hgl8 : g < w8.heap.size := by have h1 := hg8.size; simp [World.setCell] at h1; omega
              clear hown8 hg8 p0 p1 pf pl
              go_wp2_with fail
              have ht4 := hw_le HA.out HX2.out
              go_roundg (4 * (n * (F 0).size) - t)
              case measure => omega
              case rel => exact ⟨t + 1, by rw [HLY.out], by omega, HX2.out, (by show HMem _ _ _ _ _ _ _ _ _ _; rw [HPY.out]; exact M8.out), D8.out, hgl8⟩

  | false =>
    go_enter Tryd.func64, Tryd.ntmps64
    go_wp2_with (at_make; refine wpList_make_full _ rfl (.tmp 27) (.tmp 27) 108 rfl w.heap.size 4 ib (.bool false) 1 Tryd.underlying108 hib jz0 jz1 .i64 .i64 M M M rfl rfl rfl rfl (by rw [jz2]; omega) (by unfold maxLen; omega) (by first | omega | (simp; done) | (simp; omega)) ?_)
    intro W0 hown hgr
    obtain ⟨ab, hab⟩ : ∃ ab, ab = w.heap.size := ⟨_, rfl⟩
    obtain ⟨tb, htb⟩ : ∃ tb, tb = w.heap.size + 2 := ⟨_, rfl⟩
    obtain ⟨g, hgb⟩ : ∃ g, g = w.heap.size + 3 := ⟨_, rfl⟩
    obtain ⟨yb, hyb⟩ : ∃ yb, yb = w.heap.size + 1 := ⟨_, rfl⟩
    have b2 : Below (w.heap.size + 3) (((w.alloc (.cells #[.int .i64 r, .int .i64 c] 38)).alloc (.cells #[.int .i64 r, .int .i64 c] 38)).alloc (.cells #[.int .i64 1, .int .i64 0, .int .i64 3, .int .i64 2] 3)) W0 := (Below.refl _ _).grown hgr (by simp) (fun k h => by cases h)
    have HM0 : Hid (HMem w W0 ab tb false (r, c) 0 (.slice (some ⟨yb, 0, none⟩) 1 1) (hwR F n false (r, c)) (hwC F n false (r, c))) := by
      refine ⟨?_, ?_, ?_, by omega, by omega, Below.trans (b := ((w.alloc (.cells #[.int .i64 r, .int .i64 c] 38)).alloc (.cells #[.int .i64 r, .int .i64 c] 38)).alloc (.cells #[.int .i64 1, .int .i64 0, .int .i64 3, .int .i64 2] 3)) (by repeat (first | (with_reducible exact Below.refl _ _) | (with_reducible refine below_ov ?_ ?_) | (with_reducible refine Below.setCell ?_ ?_ _) | (with_reducible refine Below.alloc ?_ ?_ _) | (with_reducible refine Below.drew ?_) | (with_reducible refine below_drewN ?_ _) | (refine Below.trans ?_ (Below.mono ‹Below _ _ _› (by first | omega | (simp; done) | (simp; omega)))) | exact Below.refl _ _ | omega | (focus (simp; done)) | (focus (simp; omega)))) (b2.mono (by omega))⟩
      · rw [hab]
        refine Bx2.below (B := w.heap.size + 1) ?_ ?_ (by omega) (w := w.alloc (.cells #[.int .i64 r, .int .i64 c] 38))
        · exact Bx2.new w r c
        · exact Below.trans (b := ((w.alloc (.cells #[.int .i64 r, .int .i64 c] 38)).alloc (.cells #[.int .i64 r, .int .i64 c] 38)).alloc (.cells #[.int .i64 1, .int .i64 0, .int .i64 3, .int .i64 2] 3)) (by repeat (first | (with_reducible exact Below.refl _ _) | (with_reducible refine below_ov ?_ ?_) | (with_reducible refine Below.setCell ?_ ?_ _) | (with_reducible refine Below.alloc ?_ ?_ _) | (with_reducible refine Below.drew ?_) | (with_reducible refine below_drewN ?_ _) | (refine Below.trans ?_ (Below.mono ‹Below _ _ _› (by first | omega | (simp; done) | (simp; omega)))) | exact Below.refl _ _ | omega | (focus (simp; done)) | (focus (simp; omega)))) (b2.mono (by omega))
      · rw [htb, b2.block _ (by omega)]
        have h := heap_alloc_new (((w.alloc (.cells #[.int .i64 r, .int .i64 c] 38)).alloc (.cells #[.int .i64 r, .int .i64 c] 38))) (.cells #[.int .i64 1, .int .i64 0, .int .i64 3, .int .i64 2] 3)
        simp at h
        simpa [trn] using h
      · have h := World.ownsRow_lit (base := ab + 1) (e := 38) (size := 2) (w.alloc (.cells #[.int .i64 r, .int .i64 c] 38)) #[.int .i64 r, .int .i64 c] 1 (by simp; omega) (by unfold maxLen; omega) rfl
        have h2 := row_below h (B := w.heap.size + 2) (w' := W0) (Below.trans (b := ((w.alloc (.cells #[.int .i64 r, .int .i64 c] 38)).alloc (.cells #[.int .i64 r, .int .i64 c] 38)).alloc (.cells #[.int .i64 1, .int .i64 0, .int .i64 3, .int .i64 2] 3)) (by repeat (first | (with_reducible exact Below.refl _ _) | (with_reducible refine below_ov ?_ ?_) | (with_reducible refine Below.setCell ?_ ?_ _) | (with_reducible refine Below.alloc ?_ ?_ _) | (with_reducible refine Below.drew ?_) | (with_reducible refine below_drewN ?_ _) | (refine Below.trans ?_ (Below.mono ‹Below _ _ _› (by first | omega | (simp; done) | (simp; omega)))) | exact Below.refl _ _ | omega | (focus (simp; done)) | (focus (simp; omega)))) (b2.mono (by omega))) (by simp)
        rw [hyb]
        simpa [rowL, iiC, hwR, hwC, hwP_zero, List.range, List.range.loop] using h2
    have HD0 : Hid (OwnL W0 g (g + 1) 4 1 (.slice (some ⟨g, 0, none⟩) M M) M M (fun i => .bool (hwD F n false (r, c) 0 i))) := by
      rw [toList_madeCells_one, bool_row] at hown
      have h := row_at hown (by omega) rfl
      show OwnL _ _ _ _ _ _ _ _ _
      rw [hgb]
      rw [Nat.mul_one] at h
      simpa [hwD] using h
    have hzW : g < W0.heap.size := by have := (hown.lt _ rfl).2; simp at this; omega
    have LG0 : Hid (ab ≠ g ∧ tb ≠ g ∧ w.heap.size ≤ g) := by show _ ∧ _ ∧ _; omega
    rw [← hgb, ← htb, ← hyb, ← hab]
    clear b2 hab htb hgb hyb hown hgr
    go_wp2_with fail
    go_loopg [7, 10] (4 * (n * (F 0).size) + 1) (fun gn wv lv wr => ∃ t : Nat, lv = .int .i64 (hwL F n false (r, c) t : Nat) ∧ 4 * (n * (F 0).size) - t < gn ∧ Hid (∀ s, s < t → hwX F n false (r, c) s = false) ∧ Hid (HMem w wr ab tb false (hwP F n false (r, c) t) t wv (hwR F n false (r, c)) (hwC F n false (r, c))) ∧ Hid (OwnL wr g (g + 1) 4 1 (.slice (some ⟨g, 0, none⟩) M M) M M (fun i => .bool (hwD F n false (r, c) t i))) ∧ g < wr.heap.size)
    case atStart => exact ⟨0, by rw [hwL_zero]; rfl, by omega, fun s hs => absurd hs (Nat.not_lt_zero _), HM0.out, HD0.out, hzW⟩
    case round =>
      obtain ⟨t, rfl, hgt, HX, HM, HS, hgl⟩ := hrel
      have HOP : Hid (opP F n (hwP F n false (r, c) t) = true) := hwP_open HA.out HX.out
      have hl4 := hwL_lt (F := F) (n := n) (b := false) (a := (r, c)) t
      have hcl := hwC_lt HOP.out
      obtain ⟨l, hl⟩ : ∃ l, l = hwL F n false (r, c) t := ⟨_, rfl⟩
      rw [← hl] at hl4
      rw [← hl]
      have HL := hide hl
      clear hl
      obtain ⟨p, hp⟩ : ∃ p, p = hwP F n false (r, c) t := ⟨_, rfl⟩
      rw [← hp] at HM HOP
      have HPP := hide hp
      clear hp
      have HCL := hide hcl
      clear hcl
      have ht576 : t ≤ 576 := by
        have h1 := hw_le HA.out HX.out
        have h2 := (fl_area HG.out).2
        omega
      obtain ⟨wo, ewo⟩ : ∃ wo : World, wo = wr := ⟨_, rfl⟩
      subst ewo
      go_wp2_with fail
      go_loopg [11, 31] 5 (fun gn dv jv wr => ∃ j : Nat, dv = .int .i64 (hdJ F n false p l j) ∧ jv = .int .i64 j ∧ j ≤ 4 ∧ 4 - j < gn ∧ Hid (Below wo.heap.size wo wr))
      case atStart => exact ⟨0, rfl, rfl, by omega, by omega, Below.refl _ _⟩
      case round =>
        obtain ⟨j, rfl, rfl, hj, hgj, HB⟩ := hrel
        have M1 := hide (HM.out.below HB.out)
        have hz := M1.out.bel.size
        obtain ⟨b1, b2, b3, b4⟩ := opP_bd HOP.out
        obtain ⟨g1, g2, g3, g4, _, _⟩ := flB_facts HG.out
        have hJb := hdJ_bd (F := F) (n := n) (b := false) (p := p) (l := l) j
        by_cases hj4 : j < 4
        · have htc := M1.out.turn hj4
          have ltb := M1.out.tlt
          have hd4 := hdI_lt false l j
          obtain ⟨z1, z2⟩ := hdI_rem false l j hl4 hj4
          have HN : Hid (hdJ F n false p l (j + 1) = if hdJ F n false p l j < 0 ∧ opP F n (stp p (hdI false l j)) = true then (hdI false l j : Int) else hdJ F n false p l j) := rfl
          obtain ⟨d, hd⟩ : ∃ d, d = hdI false l j := ⟨_, rfl⟩
          rw [← hd] at hd4 z2 HN
          obtain ⟨tj, htj⟩ : ∃ tj, tj = trn false j := ⟨_, rfl⟩
          rw [← htj] at htc z1 z2
          obtain ⟨y, hy⟩ : ∃ y, stp p d = y := ⟨_, rfl⟩
          rw [hy] at HN
          have HY := hide hy
          obtain ⟨J, hJ⟩ : ∃ J, J = hdJ F n false p l j := ⟨_, rfl⟩
          rw [← hJ] at HN hJb
          rw [← hJ]
          obtain ⟨p0, p1, pf, pl⟩ := M1.out.box
          clear hd htj hy hJ
          by_cases hJn : J < 0
          · have dJ : decide (J < 0) = true := decide_eq_true hJn
            go_wp2_with fail
            refine (seStep_p p y d _ HY.out hd4 (by omega) (by omega) (by omega) (by omega)).mono ?_
            rintro e w2 ⟨rfl, hb2⟩
            have M2 := hide (M1.out.below hb2)
            have HB2 : Hid (Below wo.heap.size wo w2) := HB.out.trans (hb2.mono HB.out.size)
            clear p0 p1 pf pl htc hb2
            go_wp2_with fail
            refine (seOpen_any F n y.1 y.2 lo hi _ _ (HV.out.below (B := w.heap.size) M2.out.bel hhi) (by have := M2.out.bel.size; omega) HG.out).mono ?_
            rintro e w3 ⟨rfl, hb3⟩
            have HB3 : Hid (Below wo.heap.size wo w3) := HB2.out.trans (hb3.mono HB2.out.size)
            clear hb3
            cases e1 : opB F n y.1 y.2 with
            | false =>
              have HN2 : Hid (hdJ F n false p l (j + 1) = J) := by show _ = _; rw [HN.out, if_neg (by rw [show opP F n y = false from e1]; simp)]
              go_wp2_with fail
              go_roundg (4 - j)
              case measure => omega
              case rel => exact ⟨j + 1, by rw [HN2.out], by go_num, by omega, by omega, HB3.out⟩
            | true =>
              have HN2 : Hid (hdJ F n false p l (j + 1) = (d : Int)) := by show _ = _; rw [HN.out, if_pos ⟨hJn, e1⟩]
              go_wp2_with fail
              go_roundg (4 - j)
              case measure => omega
              case rel => exact ⟨j + 1, by rw [HN2.out], by go_num, by omega, by omega, HB3.out⟩
          · have dJ : decide (J < 0) = false := decide_eq_false hJn
            have HN2 : Hid (hdJ F n false p l (j + 1) = J) := by show _ = _; rw [HN.out, if_neg (by omega)]
            go_wp2_with fail
            go_roundg (4 - j)
            case measure => omega
            case rel => exact ⟨j + 1, by rw [HN2.out], by go_num, by omega, by omega, HB.out⟩
        · obtain rfl : j = 4 := by omega
          have HHJ : Hid (hwJ F n false (r, c) t = hdJ F n false p l 4) := by
            show hdJ F n false (hwP F n false (r, c) t) (hwL F n false (r, c) t) 4 = _
            rw [← HPP.out, ← HL.out]
          have D1 : Hid (OwnL wr g (g + 1) 4 1 (.slice (some ⟨g, 0, none⟩) M M) M M (fun i => .bool (hwD F n false (r, c) t i))) := HS.out.keep1 (HB.out.block _ hgl)
          have hgl1 : g < wr.heap.size := by have := HB.out.size; omega
          obtain ⟨J, hJ⟩ : ∃ J, J = hdJ F n false p l 4 := ⟨_, rfl⟩
          rw [← hJ] at HHJ hJb
          rw [← hJ]
          clear hJ
          by_cases hJn : J < 0
          · have dJ : decide (J < 0) = true := decide_eq_true hJn
            have HXE : Hid (hwX F n false (r, c) t = true) := by show _ = _; rw [hwX, HHJ.out, dJ]; rfl
            go_wp2_with fail
            go_ret
            exact hw_end HA.out HX.out HXE.out M1.out
          · have dJ : decide (J < 0) = false := decide_eq_false hJn
            obtain ⟨d, rfl⟩ : ∃ d : Nat, J = d := ⟨J.toNat, by omega⟩
            have hd4 : d < 4 := by omega
            have HXE : Hid (hwX F n false (r, c) t = hwD F n false (r, c) t (4 * ixF F p + d)) := by
              show _ = _
              rw [hwX, HHJ.out, hwCd, HHJ.out, ← HPP.out, dJ]
              rfl
            have HCD : Hid (hwCd F n false (r, c) t = 4 * ixF F p + d) := by show _ = _; rw [hwCd, HHJ.out, ← HPP.out]; rfl
            have hix : ixF F p < n * (F 0).size := ix_lt HOP.out
            have har := (fl_area HG.out).2
            have hkM : 4 * ixF F p + d < M := by have := HM4.out; omega
            obtain ⟨ix, hixe⟩ : ∃ ix, ix = ixF F p := ⟨_, rfl⟩
            rw [← hixe] at hix hkM HXE HCD
            obtain ⟨k, hk⟩ : ∃ k, k = 4 * ix + d := ⟨_, rfl⟩
            rw [← hk] at hkM HXE HCD
            have HIX := hide hixe
            have z1 : IntKind.i64.wrap (4 * (ix : Int)) = 4 * (ix : Int) := IntWalk.i64_in _ (by omega)
            have z2 : IntKind.i64.wrap (4 * (ix : Int) + (d : Int)) = (k : Int) := by rw [IntWalk.i64_in _ (by omega)]; omega
            obtain ⟨p0, p1, pf, pl⟩ := M1.out.box
            have HZ := hide (And.intro z1 z2)
            clear hixe hk z1 z2
            go_wp2_with fail
            refine (seIndex_p F n p lo hi _ _ (HV.out.below (B := w.heap.size) M1.out.bel hhi) (by omega) HG.out HOP.out).mono ?_
            rintro e w2 ⟨rfl, hb2⟩
            rw [← HIX.out]
            have M2 := hide (M1.out.below hb2)
            have D2 := hide (D1.out.keep1 (hb2.block _ hgl1))
            have hgl2 : g < w2.heap.size := Nat.lt_of_lt_of_le hgl1 hb2.size
            clear p0 p1 pf pl hb2
            obtain ⟨_, hfk, hck0⟩ := D2.out.cell (by omega) (o := k) (by omega)
            have hck := hck0 hkM
            clear hck0
            obtain ⟨qb, hqb⟩ : ∃ qb, hwD F n false (r, c) t k = qb := ⟨_, rfl⟩
            rw [hqb] at hck HXE
            have HQB := hide hqb
            clear hqb
            obtain ⟨z1, z2⟩ := HZ.out
            obtain ⟨p0, p1, pf, pl⟩ := M2.out.box
            cases qb with
            | true =>
              go_wp2_with fail
              go_ret
              exact hw_end HA.out HX.out HXE.out M2.out
            | false =>
              have HX2 : Hid (∀ s, s < t + 1 → hwX F n false (r, c) s = false) := upto_snocF (p := hwX F n false (r, c)) HX.out HXE.out
              have z1' := z1
              clear z1
              have z1 := z1'
              go_wp2_with fail
              refine (seIndex_p F n p lo hi _ _ (HV.out.below (B := w.heap.size) M2.out.bel hhi) (by have := M2.out.bel.size; omega) HG.out HOP.out).mono ?_
              rintro e w4 ⟨rfl, hb4⟩
              rw [← HIX.out]
              have M4 := hide (M2.out.below hb4)
              have D4 := hide (D2.out.keep1 (hb4.block _ hgl2))
              have hgl4 : g < w4.heap.size := Nat.lt_of_lt_of_le hgl2 hb4.size
              clear p0 p1 pf pl hb4 hck hfk
              obtain ⟨⟨u0, hu0⟩, hfk, _⟩ := D4.out.cell (by omega) (o := k) (by omega)
              obtain ⟨p0, p1, pf, pl⟩ := M4.out.box
              have hng : ¬ g = ab := fun e => LG0.out.1 e.symm
              have hng' : ¬ ab = g := LG0.out.1
              go_wp2_with fail
              obtain ⟨W5, hW5⟩ : ∃ W5, W5 = w4.setCell ⟨g, k, none⟩ (.bool true) := ⟨_, rfl⟩
              rw [← hW5]
              have hbl : ∀ q, q ≠ g → W5.heap[q]? = w4.heap[q]? := fun q hq => by rw [hW5]; exact Deep.blk_setCell_other _ _ _ _ hq
              have hs5 : W5.heap.size = w4.heap.size := by rw [hW5]; simp [World.setCell]
              obtain ⟨cs, hcs⟩ := D4.out.heap_ (by omega)
              have M5 : Hid (HMem w W5 ab tb false p t u7 (hwR F n false (r, c)) (hwC F n false (r, c))) :=
                M4.out.keep (fun q hq h => hbl q (M4.out.apart hcs (fun _ _ h => by injection h with _ h _; exact absurd h (by decide)) (fun _ _ h => by injection h with _ h _; exact absurd h (by decide)) LG0.out.1.symm q hq h)) (by omega) (by rw [hW5]; exact M4.out.bel.setCell LG0.out.2.2 _)
              have D5 : Hid (OwnL W5 g (g + 1) 4 1 (.slice (some ⟨g, 0, none⟩) M M) M M (fun i => .bool (hwD F n false (r, c) (t + 1) i))) := by
                show OwnL _ _ _ _ _ _ _ _ _
                rw [hW5]
                refine (D4.out.set (o := k) (by omega) _).congr fun o _ => ?_
                rw [hwD, orP, HCD.out]
                by_cases e : o = k
                · simp [e]
                · simp [e]
              have hgl5 : g < W5.heap.size := by omega
              obtain ⟨y, hy⟩ : ∃ y, stp p d = y := ⟨_, rfl⟩
              have HY := hide hy
              have HPY : Hid (hwP F n false (r, c) (t + 1) = y) := by show _ = _; rw [hwP_next, HHJ.out, ← HPP.out]; exact hy
              have HLY : Hid (hwL F n false (r, c) (t + 1) = d) := by show _ = _; rw [hwL_next, HHJ.out]; rfl
              clear hy hW5 hbl hs5 p0 p1 pf pl hu0 hfk hcs
              refine (seStep_p p y d _ HY.out hd4 (by omega) (by omega) (by omega) (by omega)).mono ?_
              rintro e w6 ⟨rfl, hb6⟩
              have M6 := hide (M5.out.below hb6)
              have D6 := hide (D5.out.keep1 (hb6.block _ hgl5))
              have hgl6 : g < w6.heap.size := Nat.lt_of_lt_of_le hgl5 hb6.size
              have M7 := hide (M6.out.move y.1 y.2)
              have D7 : Hid (OwnL ((w6.setCell ⟨ab, 0, none⟩ (.int .i64 y.1)).setCell ⟨ab, 1, none⟩ (.int .i64 y.2)) g (g + 1) 4 1 (.slice (some ⟨g, 0, none⟩) M M) M M (fun i => .bool (hwD F n false (r, c) (t + 1) i))) :=
                D6.out.keep1 ((Deep.blk_setCell_other _ _ _ _ (by exact hng)).trans (Deep.blk_setCell_other _ _ _ _ (by exact hng)))
              clear hb6
              obtain ⟨p0, p1, pf, pl⟩ := M6.out.box
              have hal := M6.out.al
              go_wp2_with (at_builtin; refine wpList_append_own _ rfl _ _ 26 rfl (ab + 1) 38 ii (.agg #[.int .i64 0, .int .i64 0]) 2 16 Tryd.underlying26 hii iz0 iz1 iz2 rfl (by decide) _ _ _ rfl (M7.out.row.alloc _) ⟨_, 0, none⟩ 1 1 [.int .i64 y.1, .int .i64 y.2] rfl rfl ?_ ?_ ?_ ?_ ?_ ?_)
              · intro i u hu
                match i, hu with
                | 0, hu => simp at hu; subst hu; simp [go_sem, Addr.add, World.setCell]
                | 1, hu => simp at hu; subst hu; simp [go_sem, Addr.add, World.setCell]
              · intro u hu; simp at hu; rcases hu with rfl | rfl <;> rfl
              · unfold maxLen; omega
              · omega
              · simp [World.setCell]; omega
              intro v' w8 hown8 hg8 _
              have M8 : Hid (HMem w w8 ab tb false y (t + 1) v' (hwR F n false (r, c)) (hwC F n false (r, c))) := by
                refine M7.out.more _ ?_ hg8
                have e : rowL (iiC (hwR F n false (r, c)) (hwC F n false (r, c))) 2 (t + 1 + 1) = rowL (iiC (hwR F n false (r, c)) (hwC F n false (r, c))) 2 (t + 1) ++ [.int .i64 y.1, .int .i64 y.2] := by
                  rw [rowL, ← HPY.out]; rfl
                rw [e]
                exact hown8
              have D8 : Hid (OwnL w8 g (g + 1) 4 1 (.slice (some ⟨g, 0, none⟩) M M) M M (fun i => .bool (hwD F n false (r, c) (t + 1) i))) := by
                obtain ⟨cs, hcs⟩ := D7.out.heap_ (by omega)
                exact D7.out.keep1 ((hg8.block g (by simp [World.setCell]; omega) (fun e => row_apart M7.out.row hcs (fun _ _ h => by injection h with _ h _; exact absurd h (by decide)) _ e.symm rfl)).trans (Deep.blk_alloc_lt _ _ _ (by simp [World.setCell]; omega)))
              have hgl8 : g < w8.heap.size := by have h1 := hg8.size; simp [World.setCell] at h1; omega
              clear hown8 hg8 p0 p1 pf pl
              go_wp2_with fail
              have ht4 := hw_le HA.out HX2.out
              go_roundg (4 * (n * (F 0).size) - t)
              case measure => omega
              case rel => exact ⟨t + 1, by rw [HLY.out], by omega, HX2.out, (by show HMem _ _ _ _ _ _ _ _ _ _; rw [HPY.out]; exact M8.out), D8.out, hgl8⟩


end Go.Proofs.YtpckhpkbdanjoaaDoor

/-
  Walks: HandWay: the program's and the reference's.-/
namespace Go.Proofs.YtpckhpkbdanjoaaDoor
set_option linter.unusedVariables false
set_option linter.unusedSimpArgs false
open Go.RowKit

def hwN (F : Nat → ByteArray) (n : Nat) (r c : Int) (b : Bool) : Nat := if sfOk F n r c = true then hwK F n b (r, c) + 1 else 0
def hwRf (F : Nat → ByteArray) (n : Nat) (r c : Int) (b : Bool) : Nat → Int := hwR F n b (r, c)
def hwCf (F : Nat → ByteArray) (n : Nat) (r c : Int) (b : Bool) : Nat → Int := hwC F n b (r, c)
theorem sf_two {F : Nat → ByteArray} {n : Nat} {r c : Int} (h : sfOk F n r c = true) : flB F n = true ∧ opB F n r c = true := by simpa only [sfOk, Bool.and_eq_true] using h
theorem hwN_le {F : Nat → ByteArray} {n : Nat} {r c : Int} {b : Bool} : hwN F n r c b ≤ 1048576 := by
  unfold hwN
  split
  · rename_i h
    have h1 := (fl_area (sf_two h).1).2
    have h2 := (hwK_facts (b := b) (a := (r, c)) (sf_two h).2).1
    omega
  · omega
/-- What the call hands back. -/
def HwRes (F : Nat → ByteArray) (n : Nat) (r c : Int) (b : Bool) (w : World) (e : Ending) (w' : World) : Prop := ∃ v', e = .returned (.tuple #[v', .bool (sfOk F n r c)]) ∧ Own w' w.heap.size w'.heap.size 38 2 v' (hwN F n r c b) (hwN F n r c b) (iiC (hwRf F n r c b) (hwCf F n r c b)) ∧ Below w.heap.size w w'
theorem hwr_nil {F : Nat → ByteArray} {n : Nat} {r c : Int} {b : Bool} {w w' : World} (h : sfOk F n r c = false) (hb : Below w.heap.size w w') : HwRes F n r c b w (.returned (.tuple #[.slice none 0 0, .bool false])) w' :=
  ⟨_, by rw [h], by rw [hwN, h]; exact Own.nil_ _ _ _ _ _ _, hb⟩
theorem hwr_row {F : Nat → ByteArray} {n : Nat} {r c : Int} {b : Bool} {w w' : World} {v' : Value} {lo : Nat} (h : sfOk F n r c = true) (ho : w'.ownsRow lo 38 2 v' (hwK F n b (r, c) + 1) (rowL (iiC (hwR F n b (r, c)) (hwC F n b (r, c))) 2 (hwK F n b (r, c) + 1))) (hl : w.heap.size ≤ lo) (hb : Below w.heap.size w w') :
    HwRes F n r c b w (.returned (.tuple #[v', .bool true])) w' := by
  have hN : hwN F n r c b = hwK F n b (r, c) + 1 := by rw [hwN, if_pos h]
  refine ⟨_, by rw [h], ?_, hb⟩
  rw [hN]
  exact (own_row ho).mono hl (Nat.le_refl _)
set_option maxRecDepth 100000 in
set_option maxHeartbeats 1600000 in
theorem HandWay_impl (F : Nat → ByteArray) (n : Nat) (r c : Int) (b : Bool) (lo hi : Nat) (v : Value) (w : World) (hv : Sl w lo hi 1 v n (sC F)) (hhi : hi ≤ w.heap.size) (hf : ffits F n) :
    Calls Tryd.prog 22 #[v, .agg #[.int .i64 r, .int .i64 c], .bool b] w (HwRes F n r c b w) := by
  obtain ⟨A, cap, rfl, hcap, hA⟩ := hv.open_
  cases e1 : flB F n with
  | false =>
    have HX : Hid (sfOk F n r c = false) := by show _ = _; rw [sfOk, e1]; rfl
    go_enter Tryd.func22, Tryd.ntmps22
    go_wp2_with fail
    refine (isFloor_any F n lo hi _ _ (hv.below (B := w.heap.size) (by repeat (first | (with_reducible exact Below.refl _ _) | (with_reducible refine below_ov ?_ ?_) | (with_reducible refine Below.setCell ?_ ?_ _) | (with_reducible refine Below.alloc ?_ ?_ _) | (with_reducible refine Below.drew ?_) | (with_reducible refine below_drewN ?_ _) | (refine Below.trans ?_ (Below.mono ‹Below _ _ _› (by first | omega | (simp; done) | (simp; omega)))) | exact Below.refl _ _ | omega | (focus (simp; done)) | (focus (simp; omega)))) hhi) (by first | omega | (simp; done) | (simp; omega)) hf).mono ?_
    rintro e w1 ⟨rfl, hb1⟩
    have hz1 := hb1.size
    rw [e1]
    go_wp2_with fail
    go_ret2
    exact hwr_nil HX.out (w' := w1) (w := w) (by repeat (first | (with_reducible exact Below.refl _ _) | (with_reducible refine below_ov ?_ ?_) | (with_reducible refine Below.setCell ?_ ?_ _) | (with_reducible refine Below.alloc ?_ ?_ _) | (with_reducible refine Below.drew ?_) | (with_reducible refine below_drewN ?_ _) | (refine Below.trans ?_ (Below.mono ‹Below _ _ _› (by first | omega | (simp; done) | (simp; omega)))) | exact Below.refl _ _ | omega | (focus (simp; done)) | (focus (simp; omega))))
  | true =>
    have HG := hide e1
    go_enter Tryd.func22, Tryd.ntmps22
    go_wp2_with fail
    refine (isFloor_any F n lo hi _ _ (hv.below (B := w.heap.size) (by repeat (first | (with_reducible exact Below.refl _ _) | (with_reducible refine below_ov ?_ ?_) | (with_reducible refine Below.setCell ?_ ?_ _) | (with_reducible refine Below.alloc ?_ ?_ _) | (with_reducible refine Below.drew ?_) | (with_reducible refine below_drewN ?_ _) | (refine Below.trans ?_ (Below.mono ‹Below _ _ _› (by first | omega | (simp; done) | (simp; omega)))) | exact Below.refl _ _ | omega | (focus (simp; done)) | (focus (simp; omega)))) hhi) (by first | omega | (simp; done) | (simp; omega)) hf).mono ?_
    rintro e w1 ⟨rfl, hb1⟩
    have hz1 := hb1.size
    (try (simp at hz1))
    rw [e1]
    clear e1
    have HPX : Hid (∀ W, Below w1.heap.size w1 W → W.cell? ⟨w.heap.size, 0, none⟩ = some (.int .i64 r) ∧ W.cell? ⟨w.heap.size, 1, none⟩ = some (.int .i64 c)) := fun W hW =>
      ⟨(hW.cell (p := ⟨w.heap.size, 0, none⟩) (by show w.heap.size < _; omega)).trans ((hb1.cell (p := ⟨w.heap.size, 0, none⟩) (by simp)).trans (World.cell?_alloc_new _ _ _ _)), (hW.cell (p := ⟨w.heap.size, 1, none⟩) (by show w.heap.size < _; omega)).trans ((hb1.cell (p := ⟨w.heap.size, 1, none⟩) (by simp)).trans (World.cell?_alloc_new _ _ _ _))⟩
    have lp : w.heap.size < w1.heap.size := by omega
    obtain ⟨px0, px1⟩ := HPX.out _ (Below.refl _ _)
    cases e2 : opB F n r c with
    | false =>
      have HX : Hid (sfOk F n r c = false) := by show _ = _; rw [sfOk, HG.out, e2]; rfl
      go_wp2_with fail
      refine (isOpen_any F n r c lo hi _ _ (hv.below (B := w.heap.size) (by repeat (first | (with_reducible exact Below.refl _ _) | (with_reducible refine below_ov ?_ ?_) | (with_reducible refine Below.setCell ?_ ?_ _) | (with_reducible refine Below.alloc ?_ ?_ _) | (with_reducible refine Below.drew ?_) | (with_reducible refine below_drewN ?_ _) | (refine Below.trans ?_ (Below.mono ‹Below _ _ _› (by first | omega | (simp; done) | (simp; omega)))) | exact Below.refl _ _ | omega | (focus (simp; done)) | (focus (simp; omega)))) hhi) (by first | omega | (simp; done) | (simp; omega)) HG.out).mono ?_
      rintro e w2 ⟨rfl, hb2⟩
      have hz2 := hb2.size
      rw [e2]
      go_wp2_with fail
      go_ret2
      exact hwr_nil HX.out (w' := w2) (w := w) (by repeat (first | (with_reducible exact Below.refl _ _) | (with_reducible refine below_ov ?_ ?_) | (with_reducible refine Below.setCell ?_ ?_ _) | (with_reducible refine Below.alloc ?_ ?_ _) | (with_reducible refine Below.drew ?_) | (with_reducible refine below_drewN ?_ _) | (refine Below.trans ?_ (Below.mono ‹Below _ _ _› (by first | omega | (simp; done) | (simp; omega)))) | exact Below.refl _ _ | omega | (focus (simp; done)) | (focus (simp; omega))))
    | true =>
      have HX : Hid (sfOk F n r c = true) := by show _ = _; rw [sfOk, HG.out, e2]; rfl
      have HO := hide e2
      go_wp2_with fail
      refine (isOpen_any F n r c lo hi _ _ (hv.below (B := w.heap.size) (by repeat (first | (with_reducible exact Below.refl _ _) | (with_reducible refine below_ov ?_ ?_) | (with_reducible refine Below.setCell ?_ ?_ _) | (with_reducible refine Below.alloc ?_ ?_ _) | (with_reducible refine Below.drew ?_) | (with_reducible refine below_drewN ?_ _) | (refine Below.trans ?_ (Below.mono ‹Below _ _ _› (by first | omega | (simp; done) | (simp; omega)))) | exact Below.refl _ _ | omega | (focus (simp; done)) | (focus (simp; omega)))) hhi) (by first | omega | (simp; done) | (simp; omega)) HG.out).mono ?_
      rintro e w2 ⟨rfl, hb2⟩
      have hz2 := hb2.size
      rw [e2]
      clear e2 px0 px1
      obtain ⟨px0, px1⟩ := HPX.out _ hb2
      have lp2 : w.heap.size < w2.heap.size := by omega
      have hbw2 : Below w.heap.size w w2 := (by repeat (first | (with_reducible exact Below.refl _ _) | (with_reducible refine below_ov ?_ ?_) | (with_reducible refine Below.setCell ?_ ?_ _) | (with_reducible refine Below.alloc ?_ ?_ _) | (with_reducible refine Below.drew ?_) | (with_reducible refine below_drewN ?_ _) | (refine Below.trans ?_ (Below.mono ‹Below _ _ _› (by first | omega | (simp; done) | (simp; omega)))) | exact Below.refl _ _ | omega | (focus (simp; done)) | (focus (simp; omega))))
      go_wp2_with fail
      refine (handWay_any F n r c b lo hi _ _ (hv.below (B := w.heap.size) (by repeat (first | (with_reducible exact Below.refl _ _) | (with_reducible refine below_ov ?_ ?_) | (with_reducible refine Below.setCell ?_ ?_ _) | (with_reducible refine Below.alloc ?_ ?_ _) | (with_reducible refine Below.drew ?_) | (with_reducible refine below_drewN ?_ _) | (refine Below.trans ?_ (Below.mono ‹Below _ _ _› (by first | omega | (simp; done) | (simp; omega)))) | exact Below.refl _ _ | omega | (focus (simp; done)) | (focus (simp; omega)))) hhi) (by first | omega | (simp; done) | (simp; omega)) HG.out HO.out).mono ?_
      rintro e w3 ⟨v3, rfl, ho3, hb3⟩
      have hz3 := hb3.size
      have HO3 := hide ho3
      have hbw : Below w.heap.size w w3 := hbw2.trans (hb3.mono hbw2.size)
      clear ho3 hb3
      obtain ⟨B3, c3, rfl⟩ := row_form HO3.out
      go_wp2_with fail
      go_ret2
      exact hwr_row HX.out HO3.out hbw2.size hbw
set_option maxRecDepth 100000 in
set_option maxHeartbeats 1600000 in
theorem HandWay_spec (F : Nat → ByteArray) (n : Nat) (r c : Int) (b : Bool) (lo hi : Nat) (v : Value) (w : World) (hv : Sl w lo hi 1 v n (sC F)) (hhi : hi ≤ w.heap.size) (hf : ffits F n) :
    Calls Tryd.prog 20 #[v, .agg #[.int .i64 r, .int .i64 c], .bool b] w (HwRes F n r c b w) := by
  obtain ⟨A, cap, rfl, hcap, hA⟩ := hv.open_
  cases e1 : sfOk F n r c with
  | false =>
    have HX := hide e1
    go_enter Tryd.func20, Tryd.ntmps20
    go_wp2_with fail
    refine (seAsked_any F n r c lo hi _ _ (hv.below (B := w.heap.size) (by repeat (first | (with_reducible exact Below.refl _ _) | (with_reducible refine below_ov ?_ ?_) | (with_reducible refine Below.setCell ?_ ?_ _) | (with_reducible refine Below.alloc ?_ ?_ _) | (with_reducible refine Below.drew ?_) | (with_reducible refine below_drewN ?_ _) | (refine Below.trans ?_ (Below.mono ‹Below _ _ _› (by first | omega | (simp; done) | (simp; omega)))) | exact Below.refl _ _ | omega | (focus (simp; done)) | (focus (simp; omega)))) hhi) (by first | omega | (simp; done) | (simp; omega)) hf).mono ?_
    rintro e w1 ⟨rfl, hb1⟩
    have hz1 := hb1.size
    rw [e1]
    go_wp2_with fail
    go_ret2
    exact hwr_nil HX.out (w' := w1) (w := w) (by repeat (first | (with_reducible exact Below.refl _ _) | (with_reducible refine below_ov ?_ ?_) | (with_reducible refine Below.setCell ?_ ?_ _) | (with_reducible refine Below.alloc ?_ ?_ _) | (with_reducible refine Below.drew ?_) | (with_reducible refine below_drewN ?_ _) | (refine Below.trans ?_ (Below.mono ‹Below _ _ _› (by first | omega | (simp; done) | (simp; omega)))) | exact Below.refl _ _ | omega | (focus (simp; done)) | (focus (simp; omega))))
  | true =>
    have HX := hide e1
    have HGO : Hid (flB F n = true ∧ opB F n r c = true) := sf_two e1
    go_enter Tryd.func20, Tryd.ntmps20
    go_wp2_with fail
    refine (seAsked_any F n r c lo hi _ _ (hv.below (B := w.heap.size) (by repeat (first | (with_reducible exact Below.refl _ _) | (with_reducible refine below_ov ?_ ?_) | (with_reducible refine Below.setCell ?_ ?_ _) | (with_reducible refine Below.alloc ?_ ?_ _) | (with_reducible refine Below.drew ?_) | (with_reducible refine below_drewN ?_ _) | (refine Below.trans ?_ (Below.mono ‹Below _ _ _› (by first | omega | (simp; done) | (simp; omega)))) | exact Below.refl _ _ | omega | (focus (simp; done)) | (focus (simp; omega)))) hhi) (by first | omega | (simp; done) | (simp; omega)) hf).mono ?_
    rintro e w1 ⟨rfl, hb1⟩
    have hz1 := hb1.size
    (try (simp at hz1))
    rw [e1]
    clear e1
    have px0 := (hb1.cell (p := ⟨w.heap.size, 0, none⟩) (by simp)).trans (World.cell?_alloc_new _ _ _ _)
    have px1 := (hb1.cell (p := ⟨w.heap.size, 1, none⟩) (by simp)).trans (World.cell?_alloc_new _ _ _ _)
    simp at px0 px1
    have lp : w.heap.size < w1.heap.size := by omega
    have hbw1 : Below w.heap.size w w1 := (by repeat (first | (with_reducible exact Below.refl _ _) | (with_reducible refine below_ov ?_ ?_) | (with_reducible refine Below.setCell ?_ ?_ _) | (with_reducible refine Below.alloc ?_ ?_ _) | (with_reducible refine Below.drew ?_) | (with_reducible refine below_drewN ?_ _) | (refine Below.trans ?_ (Below.mono ‹Below _ _ _› (by first | omega | (simp; done) | (simp; omega)))) | exact Below.refl _ _ | omega | (focus (simp; done)) | (focus (simp; omega))))
    go_wp2_with fail
    refine (seHand_any F n r c b lo hi _ _ (hv.below (B := w.heap.size) (by repeat (first | (with_reducible exact Below.refl _ _) | (with_reducible refine below_ov ?_ ?_) | (with_reducible refine Below.setCell ?_ ?_ _) | (with_reducible refine Below.alloc ?_ ?_ _) | (with_reducible refine Below.drew ?_) | (with_reducible refine below_drewN ?_ _) | (refine Below.trans ?_ (Below.mono ‹Below _ _ _› (by first | omega | (simp; done) | (simp; omega)))) | exact Below.refl _ _ | omega | (focus (simp; done)) | (focus (simp; omega)))) hhi) (by first | omega | (simp; done) | (simp; omega)) HGO.out.1 HGO.out.2).mono ?_
    rintro e w3 ⟨v3, rfl, ho3, hb3⟩
    have hz3 := hb3.size
    have HO3 := hide ho3
    have hbw : Below w.heap.size w w3 := hbw1.trans (hb3.mono hbw1.size)
    clear ho3 hb3
    obtain ⟨B3, c3, rfl⟩ := row_form HO3.out
    go_wp2_with fail
    go_ret2
    exact hwr_row HX.out HO3.out hbw1.size hbw

end Go.Proofs.YtpckhpkbdanjoaaDoor
