/-
  Texts of this proof, one behind the other (part 12).
-/
import Derived.Test.YtpckhpkbdanjoaaDoorQ11
import Derived.Test.YtpckhpkbdanjoaaDoorCards
/-
  Walks: UnsearchedCells: the program's and the reference's.-/
namespace Go.Proofs.YtpckhpkbdanjoaaDoor
set_option linter.unusedVariables false
set_option linter.unusedSimpArgs false
open Go.RowKit Go.Deep

/-- What can be reached and is not searched, by numbers. -/
def unP (F : Nat → ByteArray) (n : Nat) (r c : Int) (b : Bool) (i : Nat) : Bool := decide (0 ≤ stF F n (r, c) i) && !nrF F n (hwR F n b (r, c)) (hwC F n b (r, c)) (hwK F n b (r, c) + 1) i
def unN (F : Nat → ByteArray) (n : Nat) (r c : Int) (b : Bool) : Nat := if sfOk F n r c = true then (flt (unP F n r c b) (n * (F 0).size)).length else 0
def unR (F : Nat → ByteArray) (n : Nat) (r c : Int) (b : Bool) : Nat → Int := rI (F 0).size (unP F n r c b) (n * (F 0).size)
def unC (F : Nat → ByteArray) (n : Nat) (r c : Int) (b : Bool) : Nat → Int := cI (F 0).size (unP F n r c b) (n * (F 0).size)
theorem unN_le {F : Nat → ByteArray} {n : Nat} {r c : Int} {b : Bool} : unN F n r c b ≤ 1048576 := by
  unfold unN
  split
  · rename_i h
    have h1 := (fl_area (sf_two h).1).2
    have h2 := flt_len (unP F n r c b) (n * (F 0).size)
    omega
  · omega
/-- What the call hands back. -/
def UnRes (F : Nat → ByteArray) (n : Nat) (r c : Int) (b : Bool) (w : World) (e : Ending) (w' : World) : Prop := ∃ v', e = .returned (.tuple #[v', .bool (sfOk F n r c)]) ∧ Own w' w.heap.size w'.heap.size 38 2 v' (unN F n r c b) (unN F n r c b) (iiC (unR F n r c b) (unC F n r c b)) ∧ Below w.heap.size w w'
theorem un_nil {F : Nat → ByteArray} {n : Nat} {r c : Int} {b : Bool} {w w' : World} (h : sfOk F n r c = false) (hb : Below w.heap.size w w') : UnRes F n r c b w (.returned (.tuple #[.slice none 0 0, .bool false])) w' :=
  ⟨_, by rw [h], by rw [unN, h]; exact Own.nil_ _ _ _ _ _ _, hb⟩
theorem un_row {F : Nat → ByteArray} {n : Nat} {r c : Int} {b : Bool} {w w' : World} {v' : Value} {lo : Nat} (h : sfOk F n r c = true) (ho : w'.ownsRow lo 38 2 v' (flt (unP F n r c b) (n * (F 0).size)).length (rowL (iiC (unR F n r c b) (unC F n r c b)) 2 (flt (unP F n r c b) (n * (F 0).size)).length)) (hl : w.heap.size ≤ lo) (hb : Below w.heap.size w w') :
    UnRes F n r c b w (.returned (.tuple #[v', .bool true])) w' := by
  have hN : unN F n r c b = (flt (unP F n r c b) (n * (F 0).size)).length := by rw [unN, if_pos h]
  refine ⟨_, by rw [h], ?_, hb⟩
  rw [hN]
  exact (own_row ho).mono hl (Nat.le_refl _)
theorem hw_opens {F : Nat → ByteArray} {n : Nat} {b : Bool} {a : Int × Int} (ha : opP F n a = true) : ∀ t, t < hwK F n b a + 1 → opB F n (hwR F n b a t) (hwC F n b a t) = true := fun t ht =>
  hwP_open ha fun s hs => (hwK_facts ha).2.2 s (by omega)
theorem infoIntU : (Tryd.prog.info? 3).map (fun i => (i.zero, i.size, i.bytes)) = some (some (.int .i64 0), 1, 8) := by kernel_rfl
set_option maxRecDepth 100000 in
set_option maxHeartbeats 3200000 in
theorem UnsearchedCells_spec (F : Nat → ByteArray) (n : Nat) (r c : Int) (b : Bool) (lo hi : Nat) (v : Value) (w : World) (hv : Sl w lo hi 1 v n (sC F)) (hhi : hi ≤ w.heap.size) (hf : ffits F n) :
    Calls Tryd.prog 26 #[v, .agg #[.int .i64 r, .int .i64 c], .bool b] w (UnRes F n r c b w) := by
  obtain ⟨A, cap, rfl, hcap, _⟩ := id hv.open_
  have HV := hide hv
  clear hv
  obtain ⟨ii, hii, iz0, iz1, iz2⟩ := info_parts infoIntU
  cases e1 : sfOk F n r c with
  | false =>
    have HX := hide e1
    go_enter Tryd.func26, Tryd.ntmps26
    go_wp2_with fail
    refine (seAsked_any F n r c lo hi _ _ (HV.out.below (B := w.heap.size) (by repeat (first | (with_reducible exact Below.refl _ _) | (with_reducible refine below_ov ?_ ?_) | (with_reducible refine Below.setCell ?_ ?_ _) | (with_reducible refine Below.alloc ?_ ?_ _) | (with_reducible refine Below.drew ?_) | (with_reducible refine below_drewN ?_ _) | (refine Below.trans ?_ (Below.mono ‹Below _ _ _› (by first | omega | (simp; done) | (simp; omega)))) | exact Below.refl _ _ | omega | (focus (simp; done)) | (focus (simp; omega)))) hhi) (by first | omega | (simp; done) | (simp; omega)) hf).mono ?_
    rintro e w1 ⟨rfl, hb1⟩
    have hz1 := hb1.size
    rw [e1]
    go_wp2_with fail
    go_ret2
    exact un_nil HX.out (w' := w1) (w := w) (by repeat (first | (with_reducible exact Below.refl _ _) | (with_reducible refine below_ov ?_ ?_) | (with_reducible refine Below.setCell ?_ ?_ _) | (with_reducible refine Below.alloc ?_ ?_ _) | (with_reducible refine Below.drew ?_) | (with_reducible refine below_drewN ?_ _) | (refine Below.trans ?_ (Below.mono ‹Below _ _ _› (by first | omega | (simp; done) | (simp; omega)))) | exact Below.refl _ _ | omega | (focus (simp; done)) | (focus (simp; omega))))
  | true =>
    have HX := hide e1
    have HGO : Hid (flB F n = true ∧ opB F n r c = true) := sf_two e1
    have HG : Hid (flB F n = true) := HGO.out.1
    have HA : Hid (opP F n (r, c) = true) := HGO.out.2
    have B0 := Bx2.new w r c
    go_enter Tryd.func26, Tryd.ntmps26
    go_wp2_with fail
    refine (seAsked_any F n r c lo hi _ _ (HV.out.below (B := w.heap.size) (by repeat (first | (with_reducible exact Below.refl _ _) | (with_reducible refine below_ov ?_ ?_) | (with_reducible refine Below.setCell ?_ ?_ _) | (with_reducible refine Below.alloc ?_ ?_ _) | (with_reducible refine Below.drew ?_) | (with_reducible refine below_drewN ?_ _) | (refine Below.trans ?_ (Below.mono ‹Below _ _ _› (by first | omega | (simp; done) | (simp; omega)))) | exact Below.refl _ _ | omega | (focus (simp; done)) | (focus (simp; omega)))) hhi) (by first | omega | (simp; done) | (simp; omega)) hf).mono ?_
    rintro e w1 ⟨rfl, hb1⟩
    rw [e1]
    clear e1
    have B1 := hide (B0.below hb1 (by simp))
    have HB1 : Hid (Below w.heap.size w w1) := ((Below.refl w.heap.size w).alloc (Nat.le_refl _) _).trans (hb1.mono (by simp))
    clear hb1 B0
    obtain ⟨p0, p1, pf, pl⟩ := B1.out
    go_wp2_with fail
    refine (seHand_any F n r c b lo hi _ _ (HV.out.below (B := w.heap.size) HB1.out hhi) (by have := HB1.out.size; omega) HG.out HA.out).mono ?_
    rintro e w2 ⟨v2, rfl, ho2, hb2⟩
    have B2 := hide (B1.out.below hb2 B1.out.lt)
    have HB2 : Hid (Below w.heap.size w w2) := HB1.out.trans (hb2.mono HB1.out.size)
    have HO2 := hide (own_row ho2).sl
    clear ho2 hb2 p0 p1 pf pl
    have har := (fl_area HG.out).2
    have har1 := (fl_area HG.out).1
    have hK := (hwK_facts (b := b) HA.out).1
    obtain ⟨A2, c2, rfl, _, _⟩ := id HO2.out.open_
    go_wp2_with fail
    refine (seNear_any F n _ _ _ lo hi _ _ _ _ _ (HV.out.below (B := w.heap.size) HB2.out hhi) (by have := HB2.out.size; omega) HO2.out (Nat.le_refl _) HG.out (by omega) (hw_opens HA.out)).mono ?_
    rintro e w3 ⟨v3, rfl, hr3, hb3⟩
    have B3 := hide (B2.out.below hb3 B2.out.lt)
    have HB3 : Hid (Below w.heap.size w w3) := HB2.out.trans (hb3.mono HB2.out.size)
    have HN3 := hide (own_flt hr3).sl
    clear hr3 hb3 HO2
    obtain ⟨p0, p1, pf, pl⟩ := B3.out
    obtain ⟨A3, c3, rfl, _, _⟩ := id HN3.out.open_
    go_wp2_with fail
    refine (seSteps_any F n r c lo hi _ _ (HV.out.below (B := w.heap.size) HB3.out hhi) (by have := HB3.out.size; omega) HG.out HA.out).mono ?_
    rintro e w4 ⟨g, co, rfl, ho4, hg1, hg2, hb4⟩
    have HB4 : Hid (Below w.heap.size w w4) := HB3.out.trans (hb4.mono HB3.out.size)
    have HN4 := hide (HN3.out.below hb4 (Nat.le_refl _))
    have HS4 := hide ho4
    have hl3 := HB3.out.size
    clear ho4 hb4 p0 p1 pf pl HN3
    obtain ⟨N, hN⟩ : ∃ N, N = n * (F 0).size := ⟨_, rfl⟩
    rw [← hN] at har har1
    rw [← hN] at HS4 HN4
    (try rw [← hN])
    have HN := hide hN
    clear hN
    go_wp2_with fail
    go_loopg [9, 26] (N + 1) (fun gn a bv wr => ∃ t : Nat, t ≤ N ∧ N - t < gn ∧ bv = .int .i64 t ∧ Hid (PRowI wr w4.heap.size a (unP F n r c b) t) ∧ Hid (Below w4.heap.size w4 wr))
    case atStart => exact ⟨0, by omega, by omega, rfl, (by show PRowI _ _ _ _ _; exact World.ownsRow_nil _ _ _ _), Below.refl _ _⟩
    case round =>
      obtain ⟨t, ht, hgt, rfl, HR, HB⟩ := hrel
      have hz := HB.out.size
      have hz4 := HB4.out.size
      by_cases htN : t < N
      · have hst : wr.cell? ⟨g, t, none⟩ = some (.int .i64 (stF F n (r, c) t)) := (HB.out.cell (p := ⟨g, t, none⟩) hg2).trans ((HS4.out.cell (by omega) (o := t) (by omega)).2.2 htN)
        have lg : g < wr.heap.size := by omega
        have HNF : Hid (hasN (fltI (nrF F n (hwR F n b (r, c)) (hwC F n b (r, c)) (hwK F n b (r, c) + 1)) N) t (flt (nrF F n (hwR F n b (r, c)) (hwC F n b (r, c)) (hwK F n b (r, c) + 1)) N).length = nrF F n (hwR F n b (r, c)) (hwC F n b (r, c)) (hwK F n b (r, c) + 1) t) := hasN_flt htN
        have hfl := flt_len (nrF F n (hwR F n b (r, c)) (hwC F n b (r, c)) (hwK F n b (r, c) + 1)) N
        by_cases h0 : 0 ≤ stF F n (r, c) t
        · have d0 : decide (stF F n (r, c) t ≥ 0) = true := decide_eq_true h0
          have d0' : decide (0 ≤ stF F n (r, c) t) = true := decide_eq_true h0
          go_wp2_with fail
          refine (l1Has_any _ _ t w2.heap.size w3.heap.size _ _ (HN4.out.below (B := w4.heap.size) HB.out (by omega)) (by omega) (by omega)).mono ?_
          rintro e w5 ⟨rfl, rfl⟩
          rw [HNF.out]
          obtain ⟨tst, htst⟩ : ∃ q, nrF F n (hwR F n b (r, c)) (hwC F n b (r, c)) (hwK F n b (r, c) + 1) t = q := ⟨_, rfl⟩
          rw [htst]
          have HP : Hid (unP F n r c b t = !tst) := by show _ = _; rw [unP, d0', htst]; rfl
          clear htst hst HNF
          cases tst with
          | true =>
            go_wp2_with fail
            go_roundg (N - t)
            case measure => omega
            case rel => exact ⟨t + 1, by omega, by omega, by go_num, (by show World.ownsRow _ _ _ _ _ _ _; rw [fltV, flt_no HP.out]; exact HR.out), HB.out⟩
          | false =>
            have hln := flt_len (unP F n r c b) t
            go_wp2_with (at_builtin; refine wpList_append_own _ rfl _ _ 48 rfl w4.heap.size 3 ii (.int .i64 0) 1 8 Tryd.underlying48 hii iz0 iz1 iz2 rfl (by decide) _ _ _ rfl (World.ownsRow.alloc HR.out _) ⟨wr.heap.size, 0, none⟩ 1 1 [.int .i64 t] rfl rfl ?_ ?_ ?_ ?_ ?_ ?_)
            · intro i u hu
              match i, hu with
              | 0, hu => simp at hu; subst hu; simp [go_sem, Addr.add]
            · intro u hu; simp at hu; subst hu; rfl
            · unfold maxLen; omega
            · omega
            · simp; omega
            intro v' w6 hown6 hg6 _
            have HB6 : Hid (Below w4.heap.size w4 w6) := (HB.out.alloc (by omega) _).grown hg6 (by simp; omega) (fun g hg => (World.ownsRow.lt HR.out g hg).1)
            have HR6 : Hid (PRowI w6 w4.heap.size v' (unP F n r c b) (t + 1)) := by
              show World.ownsRow _ _ _ _ _ _ _
              rw [fltV, flt_yes HP.out, List.length_append, List.map_append]
              exact hown6
            clear hown6 hg6
            go_wp2_with fail
            go_roundg (N - t)
            case measure => omega
            case rel => exact ⟨t + 1, by omega, by omega, by go_num, HR6.out, HB6.out⟩
        · have d0 : decide (stF F n (r, c) t ≥ 0) = false := decide_eq_false h0
          have d0' : decide (0 ≤ stF F n (r, c) t) = false := decide_eq_false h0
          have HP : Hid (unP F n r c b t = false) := by show _ = _; rw [unP, d0']; rfl
          go_wp2_with fail
          go_roundg (N - t)
          case measure => omega
          case rel => exact ⟨t + 1, by omega, by omega, by go_num, (by show World.ownsRow _ _ _ _ _ _ _; rw [fltV, flt_no HP.out]; exact HR.out), HB.out⟩
      · obtain rfl : t = N := by omega
        have HBw : Hid (Below w.heap.size w wr) := HB4.out.trans (HB.out.mono hz4)
        have HO := hide (own_flt HR.out)
        have hfl := flt_len (unP F n r c b) t
        obtain ⟨A5, c5, rfl, _, _⟩ := id HO.out.sl.open_
        go_wp2_with fail
        refine (seCells_any F n (fltI (unP F n r c b) t) (flt (unP F n r c b) t).length lo hi w4.heap.size wr.heap.size _ _ _ (HV.out.below (B := w.heap.size) HBw.out hhi) (by omega) HO.out.sl (Nat.le_refl _) HG.out (by omega) (fun i hi => by have := fltI_lt hi; omega)).mono ?_
        rintro e w6 ⟨v6, rfl, hr6, hb6⟩
        have HB6 : Hid (Below w.heap.size w w6) := HBw.out.trans (hb6.mono HBw.out.size)
        have HR6 := hide hr6
        clear hr6 hb6
        obtain ⟨A6, c6, rfl⟩ := row_form HR6.out
        go_wp2_with fail
        go_ret2
        refine un_row HX.out (lo := wr.heap.size) ?_ (by omega) HB6.out
        rw [← HN.out]
        have h := HR6.out
        rw [show unR F n r c b = fun i => fltI (unP F n r c b) t i / ((F 0).size : Int) by funext i; rw [unR, rI, ← HN.out], show unC F n r c b = fun i => fltI (unP F n r c b) t i % ((F 0).size : Int) by funext i; rw [unC, cI, ← HN.out]]
        exact h
set_option maxRecDepth 100000 in
set_option maxHeartbeats 3200000 in
theorem UnsearchedCells_impl (F : Nat → ByteArray) (n : Nat) (r c : Int) (b : Bool) (lo hi : Nat) (v : Value) (w : World) (hv : Sl w lo hi 1 v n (sC F)) (hhi : hi ≤ w.heap.size) (hf : ffits F n) :
    Calls Tryd.prog 27 #[v, .agg #[.int .i64 r, .int .i64 c], .bool b] w (UnRes F n r c b w) := by
  obtain ⟨A, cap, rfl, hcap, hA⟩ := id hv.open_
  have HV := hide hv
  clear hv
  obtain ⟨ii, hii, iz0, iz1, iz2⟩ := info_parts infoCell2
  have B0 := Bx2.new w r c
  go_enter Tryd.func27, Tryd.ntmps27
  go_wp2_with fail
  refine (isFloor_any F n lo hi _ _ (HV.out.below (B := w.heap.size) (by repeat (first | (with_reducible exact Below.refl _ _) | (with_reducible refine below_ov ?_ ?_) | (with_reducible refine Below.setCell ?_ ?_ _) | (with_reducible refine Below.alloc ?_ ?_ _) | (with_reducible refine Below.drew ?_) | (with_reducible refine below_drewN ?_ _) | (refine Below.trans ?_ (Below.mono ‹Below _ _ _› (by first | omega | (simp; done) | (simp; omega)))) | exact Below.refl _ _ | omega | (focus (simp; done)) | (focus (simp; omega)))) hhi) (by first | omega | (simp; done) | (simp; omega)) hf).mono ?_
  rintro e w0 ⟨rfl, hb0⟩
  have P0 := hide (B0.below hb0 (by simp))
  have HB0 : Hid (Below w.heap.size w w0) := ((Below.refl w.heap.size w).alloc (Nat.le_refl _) _).trans (hb0.mono (by simp))
  clear hb0 B0
  cases e0 : flB F n with
  | false =>
    have HX : Hid (sfOk F n r c = false) := by show _ = _; rw [sfOk, e0]; rfl
    clear hA
    go_wp2_with fail
    go_ret2
    exact un_nil HX.out HB0.out
  | true =>
  have HG := hide e0
  obtain ⟨p0, p1, pf, pl⟩ := P0.out
  clear e0
  go_wp2_with fail
  refine (isOpen_any F n r c lo hi _ _ (HV.out.below (B := w.heap.size) HB0.out hhi) (by have := HB0.out.size; omega) HG.out).mono ?_
  rintro e w1 ⟨rfl, hb1⟩
  have P1 := hide (P0.out.below hb1 P0.out.lt)
  have HB1 : Hid (Below w.heap.size w w1) := HB0.out.trans (hb1.mono HB0.out.size)
  clear p0 p1 pf pl hb1
  cases e1 : opB F n r c with
  | false =>
    have HX : Hid (sfOk F n r c = false) := by show _ = _; rw [sfOk, e1]; simp
    clear hA
    go_wp2_with fail
    go_ret2
    exact un_nil HX.out HB1.out
  | true =>
  have HA : Hid (opP F n (r, c) = true) := e1
  have HX : Hid (sfOk F n r c = true) := by show _ = _; rw [sfOk, HG.out, e1]; rfl
  clear e1
  have har := (fl_area HG.out).2
  have har1 := (fl_area HG.out).1
  have hK := (hwK_facts (b := b) HA.out).1
  obtain ⟨g1, g2, g3, g4, _, _⟩ := flB_facts HG.out
  obtain ⟨blk, off, rfl, h1, h2, h3⟩ := hA (by omega)
  have c0 : w.cell? ⟨blk, off, none⟩ = some (.string (F 0)) := by simpa [sC] using h3 0 0 (by omega) (by omega)
  have l0 : blk < w.heap.size := by omega
  have HC1 : Hid (w1.cell? ⟨blk, off, none⟩ = some (.string (F 0))) := (HB1.out.cell (p := ⟨blk, off, none⟩) l0).trans c0
  have hn0 : n ≠ 0 := by omega
  have hl1 : blk < w1.heap.size := by have := HB1.out.size; omega
  clear hA h3 c0
  go_wp2_with fail
  refine wp_region_mixd [(0, true), (1, true), (2, true), (3, true), (6, true), (7, true), (8, true), (9, true), (4, false), (5, false), (10, true), (11, true)] (fun W => Below w1.heap.size w1 W) (by kernel_rfl) (by kernel_rfl) (by kernel_rfl) (by kernel_rfl) (Below.drew (Below.refl _ _)) ?_
  intro wd hwd hbd
  have HCC : Hid (∀ W, Below w1.heap.size w1 W → (W.cell? ⟨w.heap.size, 0, none⟩ = some (.int .i64 r) ∧ W.cell? ⟨w.heap.size, 1, none⟩ = some (.int .i64 c)) ∧ W.cell? ⟨blk, off, none⟩ = some (.string (F 0))) := fun W hW =>
    ⟨⟨(P1.out.below hW P1.out.lt).c0, (P1.out.below hW P1.out.lt).c1⟩, (hW.cell (p := ⟨blk, off, none⟩) hl1).trans HC1.out⟩
  refine mix_look _ _ rfl rfl (fun w' _ => BigFrame.run_move _ rfl w') ?_
  go_simp
  refine mix_look _ _ rfl rfl (fun w' _ => BigFrame.run_move _ rfl w') ?_
  go_simp
  refine mix_look _ (.agg #[.int .i64 r, .int .i64 c]) rfl rfl (fun w' hw' => (by obtain ⟨⟨a0, a1⟩, a2⟩ := HCC.out w' hw'; go_simp)) ?_
  go_simp
  refine mix_look _ _ rfl rfl (fun w' _ => BigFrame.run_move _ rfl w') ?_
  go_simp
  refine mix_look _ _ rfl rfl (fun w' _ => BigFrame.run_move _ rfl w') ?_
  go_simp
  refine mix_look _ (.pointer (some ⟨blk, off, none⟩)) rfl rfl (fun w' hw' => (by go_simp)) ?_
  go_simp
  refine mix_look _ (.string (F 0)) rfl rfl (fun w' hw' => (by obtain ⟨⟨a0, a1⟩, a2⟩ := HCC.out w' hw'; go_simp)) ?_
  go_simp
  refine mix_look _ (.int .i64 (F 0).size) rfl rfl (fun w' hw' => (by go_simp)) ?_
  go_simp
  refine mix_call _ 65 #[.slice (some ⟨blk, off, none⟩) n cap, .agg #[.int .i64 r, .int .i64 c], .bool b] rfl rfl (by go_simp) ?_
  have HBd : Hid (Below w.heap.size w wd) := HB1.out.trans (hbd.mono HB1.out.size)
  refine (handWay_any F n r c b lo hi _ _ (HV.out.below (B := w.heap.size) HBd.out hhi) (by have := HBd.out.size; omega) HG.out HA.out).mono ?_
  rintro e w2 ⟨v2, rfl, ho2, hb2⟩
  have hb12 : Below w1.heap.size w1 w2 := hbd.trans (hb2.mono hbd.size)
  have HB2 : Hid (Below w.heap.size w w2) := HBd.out.trans (hb2.mono HBd.out.size)
  have HO2 := hide (own_row ho2).sl
  clear ho2 hb2
  refine ⟨_, rfl, hb12, ?_⟩
  obtain ⟨A2, c2, rfl, _, _⟩ := id HO2.out.open_
  go_simp
  refine mix_call _ 60 #[.slice (some ⟨blk, off, none⟩) n cap, .slice A2 (hwK F n b (r, c) + 1) c2] rfl rfl (by go_simp) ?_
  refine (searchedCells_any F n _ _ _ lo hi _ _ _ _ _ (HV.out.below (B := w.heap.size) HB2.out hhi) (by have := HB2.out.size; omega) HO2.out (Nat.le_refl _) HG.out (by omega) (hw_opens HA.out)).mono ?_
  rintro e w3 ⟨v3, rfl, hr3, hb3⟩
  have hb13 : Below w1.heap.size w1 w3 := hb12.trans (hb3.mono hb12.size)
  have HB3 : Hid (Below w.heap.size w w3) := HB2.out.trans (hb3.mono HB2.out.size)
  rw [fltC_row] at hr3
  have HN3 := hide (own_row hr3).sl
  clear hr3 hb3 hb12 HO2
  refine ⟨_, rfl, hb13, ?_⟩
  obtain ⟨A3, c3, rfl, _, _⟩ := id HN3.out.open_
  go_simp
  refine mix_look _ _ rfl rfl (fun w' _ => BigFrame.run_assign _ rfl w') ?_
  go_simp
  refine mix_look _ _ rfl rfl (fun w' _ => BigFrame.run_assign _ rfl w') ?_
  go_simp
  refine wpMix_nil ?_
  have P3 := hide (P1.out.below hb13 P1.out.lt)
  clear hb13 HCC hwd hbd HBd
  obtain ⟨p0, p1, pf, pl⟩ := P3.out
  go_wp2_with fail
  refine (stepsFrom_any F n r c lo hi _ _ (HV.out.below (B := w.heap.size) HB3.out hhi) (by have := HB3.out.size; omega) HG.out HA.out).mono ?_
  rintro e w4 ⟨g, rfl, ho4, hg1, hg2, hb4⟩
  have HB4 : Hid (Below w.heap.size w w4) := HB3.out.trans (hb4.mono HB3.out.size)
  have HN4 := hide (HN3.out.below hb4 (Nat.le_refl _))
  have HS4 := hide ho4
  have hl3 := HB3.out.size
  clear ho4 hb4 p0 p1 pf pl HN3
  obtain ⟨N, hN⟩ : ∃ N, N = n * (F 0).size := ⟨_, rfl⟩
  rw [← hN] at har har1
  rw [← hN] at HS4 HN4
  (try rw [← hN])
  have HN := hide hN
  clear hN
  obtain ⟨W, hW⟩ : ∃ W, W = (F 0).size := ⟨_, rfl⟩
  rw [← hW] at g3 g4 HN4
  (try rw [← hW])
  have HW := hide hW
  clear hW
  go_wp2_with fail
  go_loopg [10, 37] (N + 1) (fun gn a bv wr => ∃ t : Nat, t ≤ N ∧ N - t < gn ∧ bv = .int .i64 t ∧ Hid (wr.ownsRow w4.heap.size 38 2 a (flt (unP F n r c b) t).length (fltC W (unP F n r c b) t)) ∧ Hid (Below w4.heap.size w4 wr))
  case atStart => exact ⟨0, by omega, by omega, rfl, World.ownsRow_nil _ _ _ _, Below.refl _ _⟩
  case round =>
    obtain ⟨t, ht, hgt, rfl, HR, HB⟩ := hrel
    have hz := HB.out.size
    have hz4 := HB4.out.size
    by_cases htN : t < N
    · have hst : wr.cell? ⟨g, t, none⟩ = some (.int .i64 (stF F n (r, c) t)) := (HB.out.cell (p := ⟨g, t, none⟩) hg2).trans ((HS4.out.cell (by omega) (o := t) (by omega)).2.2 htN)
      have lg : g < wr.heap.size := by omega
      obtain ⟨z1, z2⟩ := div_in t W (by omega)
      have hW0 : (W : Int) ≠ 0 := by omega
      have hW1 : W ≠ 0 := by omega
      have Z3 : Hid ((t : Int).tmod (W : Int) = (t : Int) % (W : Int)) := Int.tmod_eq_emod_of_nonneg (by omega)
      have HPT : Hid (unP F n r c b t = (decide (0 ≤ stF F n (r, c) t) && !nrF F n (hwR F n b (r, c)) (hwC F n b (r, c)) (hwK F n b (r, c) + 1) t)) := rfl
      have HCF : Hid (hasC (rI W (nrF F n (hwR F n b (r, c)) (hwC F n b (r, c)) (hwK F n b (r, c) + 1)) N) (cI W (nrF F n (hwR F n b (r, c)) (hwC F n b (r, c)) (hwK F n b (r, c) + 1)) N) ((t : Int) / (W : Int)) ((t : Int) % (W : Int)) (flt (nrF F n (hwR F n b (r, c)) (hwC F n b (r, c)) (hwK F n b (r, c) + 1)) N).length = nrF F n (hwR F n b (r, c)) (hwC F n b (r, c)) (hwK F n b (r, c) + 1) t) := hasC_flt (by omega) htN
      have hfl := flt_len (nrF F n (hwR F n b (r, c)) (hwC F n b (r, c)) (hwK F n b (r, c) + 1)) N
      go_wp2_with fail
      clear hst
      refine wp_region_mix [(0, true), (1, true), (2, true), (3, true), (4, true), (5, true), (6, true), (7, false), (8, false)] (fun _ => True) (by kernel_rfl) (by kernel_rfl) (by kernel_rfl) (by kernel_rfl) trivial ?_
      refine mix_look _ _ rfl rfl (fun w' _ => BigFrame.run_move _ rfl w') ?_
      go_simp
      refine mix_look _ _ rfl rfl (fun w' _ => BigFrame.run_move _ rfl w') ?_
      go_simp
      refine mix_look _ (.int .i64 ((t : Int) / (W : Int))) rfl rfl (fun w' hw' => (by go_simp)) ?_
      go_simp
      refine mix_look _ _ rfl rfl (fun w' _ => BigFrame.run_move _ rfl w') ?_
      go_simp
      refine mix_look _ _ rfl rfl (fun w' _ => BigFrame.run_move _ rfl w') ?_
      go_simp
      refine mix_look _ (.int .i64 ((t : Int) % (W : Int))) rfl rfl (fun w' hw' => (by go_simp; exact Z3.out)) ?_
      go_simp
      refine mix_look _ (.agg #[.int .i64 ((t : Int) / (W : Int)), .int .i64 ((t : Int) % (W : Int))]) rfl rfl (fun w' hw' => (by go_simp)) ?_
      go_simp
      obtain ⟨qx, hqx⟩ : ∃ q, q = (t : Int) / (W : Int) := ⟨_, rfl⟩
      obtain ⟨qy, hqy⟩ : ∃ q, q = (t : Int) % (W : Int) := ⟨_, rfl⟩
      rw [← hqx, ← hqy] at HCF
      rw [← hqx, ← hqy]
      have HQX := hide hqx
      have HQY := hide hqy
      clear hqx hqy z1 z2
      refine mix_value _ (.pointer (some ⟨wr.heap.size, 0, none⟩)) (wr.drew.alloc (.cells #[.int .i64 0, .int .i64 0] 38)) rfl rfl (by go_simp) trivial ?_
      go_simp
      obtain ⟨W5, hW5⟩ : ∃ W5, W5 = ((wr.drew.alloc (.cells #[.int .i64 0, .int .i64 0] 38)).setCell ⟨wr.heap.size, 0, none⟩ (.int .i64 qx)).setCell ⟨wr.heap.size, 1, none⟩ (.int .i64 qy) := ⟨_, rfl⟩
      have HW5 := hide hW5
      have X5 : Hid (Bx2 W5 wr.heap.size qx qy) := by
        show Bx2 _ _ _ _
        rw [hW5]
        exact (Bx2.new wr.drew 0 0).set qx qy
      have HB5 : Hid (Below w4.heap.size w4 W5) := by
        show Below _ _ _
        rw [hW5]
        exact (((Below.drew HB.out).alloc hz _).setCell hz _).setCell hz _
      have HR5 : Hid (W5.ownsRow w4.heap.size 38 2 u10 (flt (unP F n r c b) t).length (fltC W (unP F n r c b) t)) := by
        show World.ownsRow _ _ _ _ _ _ _
        refine row_keep HR.out fun q hq => ?_
        have hlt := (World.ownsRow.lt HR.out q hq).2
        rw [hW5]
        exact (Deep.blk_setCell_other _ _ _ _ (by show q ≠ wr.heap.size; omega)).trans ((Deep.blk_setCell_other _ _ _ _ (by show q ≠ wr.heap.size; omega)).trans (Deep.blk_alloc_lt wr.drew _ _ hlt))
      clear hW5
      refine mix_store _ W5 rfl rfl (by rw [HW5.out]; go_simp) trivial ?_
      go_simp
      refine wpMix_nil ?_
      obtain ⟨q0, q1, qf, ql⟩ := X5.out
      by_cases h0 : 0 ≤ stF F n (r, c) t
      · have d0 : decide (stF F n (r, c) t ≥ 0) = true := decide_eq_true h0
        have d0' : decide (0 ≤ stF F n (r, c) t) = true := decide_eq_true h0
        go_wp2_with fail
        have ContW := (ContainsCell_any (rI W (nrF F n (hwR F n b (r, c)) (hwC F n b (r, c)) (hwK F n b (r, c) + 1)) N) (cI W (nrF F n (hwR F n b (r, c)) (hwC F n b (r, c)) (hwK F n b (r, c) + 1)) N) (flt (nrF F n (hwR F n b (r, c)) (hwC F n b (r, c)) (hwK F n b (r, c) + 1)) N).length qx qy w2.heap.size w3.heap.size (.slice A3 (flt (nrF F n (hwR F n b (r, c)) (hwC F n b (r, c)) (hwK F n b (r, c) + 1)) N).length c3) W5 (HN4.out.below (B := w4.heap.size) HB5.out (by omega)) (by have := HB5.out.size; omega) (by omega))
        refine ContW.mono ?_
        rintro e w6 ⟨rfl, hb6⟩
        rw [HCF.out]
        obtain ⟨tst, htst⟩ : ∃ q, nrF F n (hwR F n b (r, c)) (hwC F n b (r, c)) (hwK F n b (r, c) + 1) t = q := ⟨_, rfl⟩
        rw [htst]
        have HP : Hid (unP F n r c b t = !tst) := by show _ = _; rw [HPT.out, d0', htst]; rfl
        have X6 := hide (X5.out.below hb6 ql)
        have HB6 : Hid (Below w4.heap.size w4 w6) := HB5.out.trans (hb6.mono HB5.out.size)
        have HR6 := hide (row_below HR5.out hb6 (Nat.le_refl _))
        clear htst q0 q1 qf ql hb6 HCF
        cases tst with
        | true =>
          go_wp2_with fail
          go_roundg (N - t)
          case measure => omega
          case rel => exact ⟨t + 1, by omega, by omega, by go_num, (by show World.ownsRow _ _ _ _ _ _ _; rw [flt_no HP.out, fltC_no HP.out]; exact HR6.out), HB6.out⟩
        | false =>
          have hln := flt_len (unP F n r c b) t
          obtain ⟨q0, q1, qf, ql⟩ := X6.out
          have hz6 := HB6.out.size
          go_wp2_with (at_builtin; refine wpList_append_own _ rfl _ _ 26 rfl w4.heap.size 38 ii (.agg #[.int .i64 0, .int .i64 0]) 2 16 Tryd.underlying26 hii iz0 iz1 iz2 rfl (by decide) _ _ _ rfl (World.ownsRow.alloc HR6.out _) ⟨w6.heap.size, 0, none⟩ 1 1 [.int .i64 qx, .int .i64 qy] rfl rfl ?_ ?_ ?_ ?_ ?_ ?_)
          · intro i u hu
            match i, hu with
            | 0, hu => simp at hu; subst hu; simp [go_sem, Addr.add]
            | 1, hu => simp at hu; subst hu; simp [go_sem, Addr.add]
          · intro u hu; simp at hu; rcases hu with rfl | rfl <;> rfl
          · unfold maxLen; omega
          · omega
          · simp; omega
          intro v' w7 hown7 hg7 _
          have HB7 : Hid (Below w4.heap.size w4 w7) := (HB6.out.alloc (by omega) _).grown hg7 (by simp; omega) (fun g hg => (World.ownsRow.lt HR6.out g hg).1)
          have HR7 : Hid (w7.ownsRow w4.heap.size 38 2 v' (flt (unP F n r c b) (t + 1)).length (fltC W (unP F n r c b) (t + 1))) := by
            show World.ownsRow _ _ _ _ _ _ _
            rw [flt_yes HP.out, List.length_append, fltC_yes HP.out, ← HQX.out, ← HQY.out]
            exact hown7
          clear hown7 hg7 q0 q1 qf ql
          go_wp2_with fail
          go_roundg (N - t)
          case measure => omega
          case rel => exact ⟨t + 1, by omega, by omega, by go_num, HR7.out, HB7.out⟩
      · have d0 : decide (stF F n (r, c) t ≥ 0) = false := decide_eq_false h0
        have d0' : decide (0 ≤ stF F n (r, c) t) = false := decide_eq_false h0
        have HP : Hid (unP F n r c b t = false) := by show _ = _; rw [HPT.out, d0']; rfl
        go_wp2_with fail
        go_roundg (N - t)
        case measure => omega
        case rel => exact ⟨t + 1, by omega, by omega, by go_num, (by show World.ownsRow _ _ _ _ _ _ _; rw [flt_no HP.out, fltC_no HP.out]; exact HR5.out), HB5.out⟩
    · obtain rfl : t = N := by omega
      have HBw : Hid (Below w.heap.size w wr) := HB4.out.trans (HB.out.mono hz4)
      obtain ⟨A5, c5, rfl⟩ := row_form HR.out
      go_wp2_with fail
      go_ret2
      refine un_row HX.out (lo := w4.heap.size) ?_ hz4 HBw.out
      rw [← HN.out, unR, unC, ← HN.out, ← HW.out, ← fltC_row]
      exact HR.out

end Go.Proofs.YtpckhpkbdanjoaaDoor

/-
  Closed facts on the whole program that every card of this seat asks.-/
namespace Go.Proofs.YtpckhpkbdanjoaaDoor
set_option linter.unusedVariables false
set_option linter.unusedSimpArgs false
open Go

theorem Tryd.mainIs0 : Tryd.pinned.checked.prog.mainIs = some (((true, "9bc3415960b78502ef8bbbaf3fc61dd07d7d66dca491c55dd25d91170ccba87f") : Bool × String).1, ((true, "9bc3415960b78502ef8bbbaf3fc61dd07d7d66dca491c55dd25d91170ccba87f") : Bool × String).2.toList) := by kernel_rfl
theorem Tryd.looks0 : false = Tryd.pinned.checked.prog.looks [] := by kernel_rfl

end Go.Proofs.YtpckhpkbdanjoaaDoor

/-
  Walks: the laws' marks in a slice of String (printed by gen_mark.py).-/
namespace Go.Proofs.YtpckhpkbdanjoaaDoor
set_option linter.unusedVariables false
set_option linter.unusedSimpArgs false
open Go.RowKit

/-- The marks, a cell each. -/
def mkString (q : Int) : Nat → Value := fun o => .string (mT (q + (o : Nat)))
theorem mkString_0 (q : Int) (k : Nat) : mkString q (k) = .string (mT (q + (k : Int))) := by
  unfold mkString
  congr 1 <;> congr 1 <;> (first | rfl | (push_cast; omega) | omega)
set_option maxRecDepth 100000 in
set_option maxHeartbeats 1600000 in
theorem markStringS_any (q : Int) (n lo hi K : Nat) (v : Value) (cc : Nat → Value) (w : World) (hv : OwnL w lo hi 9 1 v n K cc) (hhi : hi ≤ w.heap.size) (hn : n ≤ 1048576) (hq : 0 ≤ q) (hq' : q ≤ 4503599627370496) :
    Calls Tryd.prog 17 #[v, .int .i64 q] w fun e w' => e = .returned (.int .i64 (q + (n : Int))) ∧ OwnL w' lo hi 9 1 v n n (mkString q) ∧ Only lo hi w w' := by
  obtain ⟨A, cap, rfl, hcap, hA⟩ := hv.open_
  have hv0 := (hv.less (Nat.zero_le _)).congr (cc' := mkString q) (fun o h => absurd h (Nat.not_lt_zero _))
  clear hv
  go_enter Tryd.func17, Tryd.ntmps17
  go_wp2_with fail
  go_loopw [1, 5] (fun c i wr => ∃ k : Nat, k ≤ n ∧ i = .int .i64 k ∧ c = .int .i64 (q + (k : Int)) ∧ OwnL wr lo hi 9 1 (.slice A n cap) n k (mkString q) ∧ Only lo hi w wr) (fun _ i _ => n - (intOf i).toNat)
  case atStart => exact ⟨0, by omega, rfl, by simp, by simpa using hv0, Only.refl _ _ _⟩
  case round =>
    obtain ⟨k, hk, rfl, rfl, ho, hb⟩ := hrel
    have hzr := hb.size
    by_cases hkn : k < n
    · obtain ⟨g, rfl, g1, g2⟩ := hA (by omega)
      go_wp2_with fail
      refine (markText_any _ _ (by omega)).mono ?_
      rintro e w0 ⟨rfl, hb0⟩
      have hz0 := hb0.size
      (try (simp at hz0))
      have ho0 := ho.below hb0 (by first | omega | (simp; omega))
      have hO0 := Only.of_below (lo := lo) (hi := hi) hb0
      obtain ⟨⟨u0, hu0⟩, hf0, _⟩ := ho0.cell (by omega) (o := k) (by omega)
      have hs0 := ho0.store (by omega)
      rw [mkString_0] at hs0
      go_wp2_with fail
      go_roundw
      case rel => exact ⟨k + 1, by omega, by go_num, by congr 1; (try push_cast); omega, hs0, ((hb.trans hO0).setCell g1 g2 _)⟩
      case measure => simp [intOf]; omega
    · obtain rfl : k = n := by omega
      go_wp2_with fail
      go_ret
      exact ⟨rfl, ho, hb⟩

set_option maxRecDepth 100000 in
set_option maxHeartbeats 1600000 in
theorem heldStringS_same (q : Int) (n lo hi : Nat) (v : Value) (w : World) (hv : OwnL w lo hi 9 1 v n n (mkString q)) (hhi : hi ≤ w.heap.size) (hn : n ≤ 1048576) (hq : 0 ≤ q) (hq' : q ≤ 4503599627370496) :
    Calls Tryd.prog 25 #[v, .int .i64 q] w fun e w' => e = .returned (.int .i64 (q + (n : Int))) ∧ Below w.heap.size w w' := by
  obtain ⟨A, cap, rfl, hcap, hA⟩ := hv.open_
  go_enter Tryd.func25, Tryd.ntmps25
  go_wp2_with fail
  go_loopw [1, 5] (fun c i wr => ∃ k : Nat, k ≤ n ∧ i = .int .i64 k ∧ c = .int .i64 (q + (k : Int)) ∧ Below w.heap.size w wr) (fun _ i _ => n - (intOf i).toNat)
  case atStart => exact ⟨0, by omega, rfl, by simp, Below.refl _ _⟩
  case round =>
    obtain ⟨k, hk, rfl, rfl, hb⟩ := hrel
    have hzr := hb.size
    have hv' := hv.below hb hhi
    by_cases hkn : k < n
    · obtain ⟨g, rfl, g1, g2⟩ := hA (by omega)
      have l0 : g < wr.heap.size := by omega
      obtain ⟨_, _, c0⟩ := hv'.cell (by omega) (o := k) (by omega)
      replace c0 := c0 (by omega)
      rw [mkString_0] at c0
      go_wp2_with fail
      (refine wp_region_below_lit (by kernel_rfl) (by kernel_rfl) ?_; (repeat (first | go_big_quiet_step ((go_at_call 62; exact quiet_ov (markText_any _ _ (by omega)))) | quiet_step ((go_at_call 62; exact quiet_ov (markText_any _ _ (by omega)))))); refine wpQuiet_nil ?_; intro wa0 hba0; have hza0 := hba0.size; (try (simp at hza0)); obtain ⟨hcwa0, hfwa0⟩ := bcell hba0; (try (have hya0 : w.heap.size < wa0.heap.size := by omega)); (try (have hyya0 : w.heap.size + 1 < wa0.heap.size := by omega)))
      have m0 : g < wa0.heap.size := by omega
      go_wp2_with fail
      go_roundw
      case rel => exact ⟨k + 1, by omega, by go_num, by congr 1; (try push_cast); omega, (by repeat (first | (with_reducible exact Below.refl _ _) | (with_reducible refine below_ov ?_ ?_) | (with_reducible refine Below.setCell ?_ ?_ _) | (with_reducible refine Below.alloc ?_ ?_ _) | (with_reducible refine Below.drew ?_) | (with_reducible refine below_drewN ?_ _) | (refine Below.trans ?_ (Below.mono ‹Below _ _ _› (by first | omega | (simp; done) | (simp; omega)))) | exact Below.refl _ _ | omega | (focus (simp; done)) | (focus (simp; omega))))⟩
      case measure => simp [intOf]; omega
    · obtain rfl : k = n := by omega
      go_wp2_with fail
      go_ret
      exact ⟨rfl, hb⟩

end Go.Proofs.YtpckhpkbdanjoaaDoor

/-
  Walks: the laws' marks in a slice of Cell (printed by gen_mark.py).-/
namespace Go.Proofs.YtpckhpkbdanjoaaDoor
set_option linter.unusedVariables false
set_option linter.unusedSimpArgs false
open Go.RowKit

/-- The marks, a cell each. -/
def mkCell (q : Int) : Nat → Value := fun o => if o % 2 = 0 then .int .i64 (q + (o : Nat)) else .int .i64 (q + (o : Nat))
theorem mkCell_0 (q : Int) (k : Nat) : mkCell q (k * 2) = .int .i64 (q + (k : Int) * 2) := by
  unfold mkCell
  rw [if_pos (by omega)]
  congr 1 <;> (first | rfl | (push_cast; omega) | omega)
theorem mkCell_1 (q : Int) (k : Nat) : mkCell q (k * 2 + 1) = .int .i64 (q + (k : Int) * 2 + 1) := by
  unfold mkCell
  rw [if_neg (by omega)]
  congr 1 <;> (first | rfl | (push_cast; omega) | omega)
set_option maxRecDepth 100000 in
set_option maxHeartbeats 1600000 in
theorem markCellS_any (q : Int) (n lo hi K : Nat) (v : Value) (cc : Nat → Value) (w : World) (hv : OwnL w lo hi 38 2 v n K cc) (hhi : hi ≤ w.heap.size) (hn : n ≤ 1048576) (hq : 0 ≤ q) (hq' : q ≤ 4503599627370496) :
    Calls Tryd.prog 18 #[v, .int .i64 q] w fun e w' => e = .returned (.int .i64 (q + (n : Int) * 2)) ∧ OwnL w' lo hi 38 2 v n (n * 2) (mkCell q) ∧ Only lo hi w w' := by
  obtain ⟨A, cap, rfl, hcap, hA⟩ := hv.open_
  have hv0 := (hv.less (Nat.zero_le _)).congr (cc' := mkCell q) (fun o h => absurd h (Nat.not_lt_zero _))
  clear hv
  go_enter Tryd.func18, Tryd.ntmps18
  go_wp2_with fail
  go_loopw [1, 5] (fun c i wr => ∃ k : Nat, k ≤ n ∧ i = .int .i64 k ∧ c = .int .i64 (q + (k : Int) * 2) ∧ OwnL wr lo hi 38 2 (.slice A n cap) n (k * 2) (mkCell q) ∧ Only lo hi w wr) (fun _ i _ => n - (intOf i).toNat)
  case atStart => exact ⟨0, by omega, rfl, by simp, by simpa using hv0, Only.refl _ _ _⟩
  case round =>
    obtain ⟨k, hk, rfl, rfl, ho, hb⟩ := hrel
    have hzr := hb.size
    by_cases hkn : k < n
    · obtain ⟨g, rfl, g1, g2⟩ := hA (by omega)
      have ho0 := ho
      obtain ⟨⟨u0, hu0⟩, hf0, _⟩ := ho0.cell (by omega) (o := k * 2) (by omega)
      have hs0 := ho0.store (by omega)
      rw [mkCell_0] at hs0
      have ho1 := hs0
      obtain ⟨⟨u1, hu1⟩, hf1, _⟩ := ho1.cell (by omega) (o := k * 2 + 1) (by omega)
      have hs1 := ho1.store (by omega)
      rw [mkCell_1] at hs1
      go_wp2_with fail
      go_roundw
      case rel => exact ⟨k + 1, by omega, by go_num, by congr 1; (try push_cast); omega, by rw [show (k + 1) * 2 = k * 2 + 1 + 1 by omega]; exact hs1, ((hb.setCell g1 g2 _).setCell g1 g2 _)⟩
      case measure => simp [intOf]; omega
    · obtain rfl : k = n := by omega
      go_wp2_with fail
      go_ret
      exact ⟨rfl, ho, hb⟩

set_option maxRecDepth 100000 in
set_option maxHeartbeats 1600000 in
theorem heldCellS_same (q : Int) (n lo hi : Nat) (v : Value) (w : World) (hv : OwnL w lo hi 38 2 v n (n * 2) (mkCell q)) (hhi : hi ≤ w.heap.size) (hn : n ≤ 1048576) (hq : 0 ≤ q) (hq' : q ≤ 4503599627370496) :
    Calls Tryd.prog 19 #[v, .int .i64 q] w fun e w' => e = .returned (.int .i64 (q + (n : Int) * 2)) ∧ Below w.heap.size w w' := by
  obtain ⟨A, cap, rfl, hcap, hA⟩ := hv.open_
  go_enter Tryd.func19, Tryd.ntmps19
  go_wp2_with fail
  go_loopw [1, 5] (fun c i wr => ∃ k : Nat, k ≤ n ∧ i = .int .i64 k ∧ c = .int .i64 (q + (k : Int) * 2) ∧ Below w.heap.size w wr) (fun _ i _ => n - (intOf i).toNat)
  case atStart => exact ⟨0, by omega, rfl, by simp, Below.refl _ _⟩
  case round =>
    obtain ⟨k, hk, rfl, rfl, hb⟩ := hrel
    have hzr := hb.size
    have hv' := hv.below hb hhi
    by_cases hkn : k < n
    · obtain ⟨g, rfl, g1, g2⟩ := hA (by omega)
      have l0 : g < wr.heap.size := by omega
      obtain ⟨_, _, c0⟩ := hv'.cell (by omega) (o := k * 2) (by omega)
      replace c0 := c0 (by omega)
      rw [mkCell_0] at c0
      obtain ⟨_, _, c1⟩ := hv'.cell (by omega) (o := k * 2 + 1) (by omega)
      replace c1 := c1 (by omega)
      rw [mkCell_1] at c1
      go_wp2_with fail
      go_roundw
      case rel => exact ⟨k + 1, by omega, by go_num, by congr 1; (try push_cast); omega, (by repeat (first | (with_reducible exact Below.refl _ _) | (with_reducible refine below_ov ?_ ?_) | (with_reducible refine Below.setCell ?_ ?_ _) | (with_reducible refine Below.alloc ?_ ?_ _) | (with_reducible refine Below.drew ?_) | (with_reducible refine below_drewN ?_ _) | (refine Below.trans ?_ (Below.mono ‹Below _ _ _› (by first | omega | (simp; done) | (simp; omega)))) | exact Below.refl _ _ | omega | (focus (simp; done)) | (focus (simp; omega))))⟩
      case measure => simp [intOf]; omega
    · obtain rfl : k = n := by omega
      go_wp2_with fail
      go_ret
      exact ⟨rfl, hb⟩

end Go.Proofs.YtpckhpkbdanjoaaDoor

/-
  An argument that is a list of Cell, opened (printed by gen_data.py).-/
namespace Go.Proofs.YtpckhpkbdanjoaaDoor
set_option linter.unusedVariables false
set_option linter.unusedSimpArgs false
open Go.ChangeShapes Go.WideShapes Go.ChangeAt Go.RowKit Go.Joins Go.Deep

theorem Tryd.cells36 : Tryd.prog.cellsOf 36 = 2 := by kernel_rfl
set_option maxRecDepth 100000 in
theorem openCellT {H : Type} {enc : TypeId × Value → H} {W : World} {spare : Nat → Bool} {held : Bool} {v : Value} {d : DataW H} {ps : List MemPlace} {fuel : Nat}
    (h : DataW.trod enc Tryd.prog W 0 spare held fuel 23 [v] = some (d, ps)) :
    ∃ (A : Option Addr) (n cap : Nat) (f0 : Nat → Int) (f1 : Nat → Int), v = .slice A n cap ∧ n ≤ cap ∧ cap ≤ maxLen ∧ SlA W 0 W.heap.size 2 A n (iiC f0 f1) := by
  obtain ⟨A, n, cap, V, rfl, h1, h2, h3, h4⟩ := open_cellsT Tryd.underlying23 Tryd.cells36 (by omega) h
  refine ⟨A, n, cap, fun i => intOf (V i 0), fun i => intOf (V i 1), rfl, h1, h2, h3.congr fun i j hi hj => ?_⟩
  obtain ⟨cs', k, y, hl, hc, hy⟩ := h4 i hi
  match j, hj with
  | 0, hj =>
    obtain ⟨_, _, hz⟩ := field_of Tryd.underlying36 (by kernel_rfl) hy (j := 0) rfl (hc 0 hj)
    exact (int_cell Tryd.underlying3 hz).1
  | 1, hj =>
    obtain ⟨_, _, hz⟩ := field_of Tryd.underlying36 (by kernel_rfl) hy (j := 1) rfl (hc 1 hj)
    exact (int_cell Tryd.underlying3 hz).1
set_option maxRecDepth 100000 in
theorem openCell {H : Type} {enc : TypeId × Value → H} {W : World} {spare : Nat → Bool} {held : Bool} {v : Value} {d : DataW H} {ps : List MemPlace} {r : Reach} {b0 : Nat}
    (hv : Value.okWide Tryd.prog W r b0 23 v) (h : DataW.Trod enc Tryd.prog W 0 spare held 23 v d ps) :
    ∃ (A : Option Addr) (n cap : Nat) (f0 : Nat → Int) (f1 : Nat → Int), v = .slice A n cap ∧ n ≤ cap ∧ cap ≤ maxLen ∧ SlA W 0 W.heap.size 2 A n (iiC f0 f1) := by
  obtain ⟨A, n, cap, rfl⟩ := okWide_slice Tryd.underlying23 hv
  obtain ⟨fuel, hf⟩ := h
  exact openCellT (show DataW.trod enc Tryd.prog W 0 spare held fuel 23 [.slice A n cap] = some (d, ps) from hf)

end Go.Proofs.YtpckhpkbdanjoaaDoor
