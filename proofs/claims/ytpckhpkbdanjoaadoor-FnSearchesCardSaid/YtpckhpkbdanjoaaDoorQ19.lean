/-
  Texts of this proof, one behind the other (part 19).
-/
import Derived.Test.YtpckhpkbdanjoaaDoorQ18
import Derived.Laws.BytesArg
import Derived.Laws.IdiomStrings
/-
  Walks: UnsearchedCells: the program's and the reference's.-/
namespace Go.Proofs.YtpckhpkbdanjoaaDoor
set_option linter.unusedVariables false
set_option linter.unusedSimpArgs false
open Go.RowKit Go.Deep

/-- What can be reached and is not searched, by numbers. -/
def unP (F : Nat → ByteArray) (n : Nat) (r c : Int) (b : Bool) (i : Nat) : Bool := decide (0 ≤ stF F n (r, c) i) && !nrF F n (hwR F n b (r, c)) (hwC F n b (r, c)) (hwK F n b (r, c) + 1) i
def unN (F : Nat → ByteArray) (n : Nat) (r c : Int) (b : Bool) : Nat := if sfOk F n r c = true then (flt (unP F n r c b) (n * (F 0).size)).length else 0
def unR (F : Nat → ByteArray) (n : Nat) (r c : Int) (b : Bool) : Nat → Int := rI (F 0).size (unP F n r c b) (n * (F 0).size)
def unC (F : Nat → ByteArray) (n : Nat) (r c : Int) (b : Bool) : Nat → Int := cI (F 0).size (unP F n r c b) (n * (F 0).size)
theorem unN_le {F : Nat → ByteArray} {n : Nat} {r c : Int} {b : Bool} : unN F n r c b ≤ 1048576 := by
  unfold unN
  split
  · rename_i h
    have h1 := (fl_area (sf_two h).1).2
    have h2 := flt_len (unP F n r c b) (n * (F 0).size)
    omega
  · omega
/-- What the call hands back. -/
def UnRes (F : Nat → ByteArray) (n : Nat) (r c : Int) (b : Bool) (w : World) (e : Ending) (w' : World) : Prop := ∃ v', e = .returned (.tuple #[v', .bool (sfOk F n r c)]) ∧ Own w' w.heap.size w'.heap.size 38 2 v' (unN F n r c b) (unN F n r c b) (iiC (unR F n r c b) (unC F n r c b)) ∧ Below w.heap.size w w'
theorem un_nil {F : Nat → ByteArray} {n : Nat} {r c : Int} {b : Bool} {w w' : World} (h : sfOk F n r c = false) (hb : Below w.heap.size w w') : UnRes F n r c b w (.returned (.tuple #[.slice none 0 0, .bool false])) w' :=
  ⟨_, by rw [h], by rw [unN, h]; exact Own.nil_ _ _ _ _ _ _, hb⟩
theorem un_row {F : Nat → ByteArray} {n : Nat} {r c : Int} {b : Bool} {w w' : World} {v' : Value} {lo : Nat} (h : sfOk F n r c = true) (ho : w'.ownsRow lo 38 2 v' (flt (unP F n r c b) (n * (F 0).size)).length (rowL (iiC (unR F n r c b) (unC F n r c b)) 2 (flt (unP F n r c b) (n * (F 0).size)).length)) (hl : w.heap.size ≤ lo) (hb : Below w.heap.size w w') :
    UnRes F n r c b w (.returned (.tuple #[v', .bool true])) w' := by
  have hN : unN F n r c b = (flt (unP F n r c b) (n * (F 0).size)).length := by rw [unN, if_pos h]
  refine ⟨_, by rw [h], ?_, hb⟩
  rw [hN]
  exact (own_row ho).mono hl (Nat.le_refl _)
theorem hw_opens {F : Nat → ByteArray} {n : Nat} {b : Bool} {a : Int × Int} (ha : opP F n a = true) : ∀ t, t < hwK F n b a + 1 → opB F n (hwR F n b a t) (hwC F n b a t) = true := fun t ht =>
  hwP_open ha fun s hs => (hwK_facts ha).2.2 s (by omega)
theorem infoIntU : (Tryd.prog.info? 3).map (fun i => (i.zero, i.size, i.bytes)) = some (some (.int .i64 0), 1, 8) := by kernel_rfl
set_option maxRecDepth 100000 in
set_option maxHeartbeats 3200000 in
theorem UnsearchedCells_spec (F : Nat → ByteArray) (n : Nat) (r c : Int) (b : Bool) (lo hi : Nat) (v : Value) (w : World) (hv : Sl w lo hi 1 v n (sC F)) (hhi : hi ≤ w.heap.size) (hf : ffits F n) :
    Calls Tryd.prog 26 #[v, .agg #[.int .i64 r, .int .i64 c], .bool b] w (UnRes F n r c b w) := by
  obtain ⟨A, cap, rfl, hcap, _⟩ := id hv.open_
  have HV := hide hv
  clear hv
  obtain ⟨ii, hii, iz0, iz1, iz2⟩ := info_parts infoIntU
  cases e1 : sfOk F n r c with
  | false =>
    have HX := hide e1
    go_enter Tryd.func26, Tryd.ntmps26
    go_wp2_with fail
    refine (seAsked_any F n r c lo hi _ _ (HV.out.below (B := w.heap.size) (by repeat (first | (with_reducible exact Below.refl _ _) | (with_reducible refine below_ov ?_ ?_) | (with_reducible refine Below.setCell ?_ ?_ _) | (with_reducible refine Below.alloc ?_ ?_ _) | (with_reducible refine Below.drew ?_) | (with_reducible refine below_drewN ?_ _) | (refine Below.trans ?_ (Below.mono ‹Below _ _ _› (by first | omega | (simp; done) | (simp; omega)))) | exact Below.refl _ _ | omega | (focus (simp; done)) | (focus (simp; omega)))) hhi) (by first | omega | (simp; done) | (simp; omega)) hf).mono ?_
    rintro e w1 ⟨rfl, hb1⟩
    have hz1 := hb1.size
    rw [e1]
    go_wp2_with fail
    go_ret2
    exact un_nil HX.out (w' := w1) (w := w) (by repeat (first | (with_reducible exact Below.refl _ _) | (with_reducible refine below_ov ?_ ?_) | (with_reducible refine Below.setCell ?_ ?_ _) | (with_reducible refine Below.alloc ?_ ?_ _) | (with_reducible refine Below.drew ?_) | (with_reducible refine below_drewN ?_ _) | (refine Below.trans ?_ (Below.mono ‹Below _ _ _› (by first | omega | (simp; done) | (simp; omega)))) | exact Below.refl _ _ | omega | (focus (simp; done)) | (focus (simp; omega))))
  | true =>
    have HX := hide e1
    have HGO : Hid (flB F n = true ∧ opB F n r c = true) := sf_two e1
    have HG : Hid (flB F n = true) := HGO.out.1
    have HA : Hid (opP F n (r, c) = true) := HGO.out.2
    have B0 := Bx2.new w r c
    go_enter Tryd.func26, Tryd.ntmps26
    go_wp2_with fail
    refine (seAsked_any F n r c lo hi _ _ (HV.out.below (B := w.heap.size) (by repeat (first | (with_reducible exact Below.refl _ _) | (with_reducible refine below_ov ?_ ?_) | (with_reducible refine Below.setCell ?_ ?_ _) | (with_reducible refine Below.alloc ?_ ?_ _) | (with_reducible refine Below.drew ?_) | (with_reducible refine below_drewN ?_ _) | (refine Below.trans ?_ (Below.mono ‹Below _ _ _› (by first | omega | (simp; done) | (simp; omega)))) | exact Below.refl _ _ | omega | (focus (simp; done)) | (focus (simp; omega)))) hhi) (by first | omega | (simp; done) | (simp; omega)) hf).mono ?_
    rintro e w1 ⟨rfl, hb1⟩
    rw [e1]
    clear e1
    have B1 := hide (B0.below hb1 (by simp))
    have HB1 : Hid (Below w.heap.size w w1) := ((Below.refl w.heap.size w).alloc (Nat.le_refl _) _).trans (hb1.mono (by simp))
    clear hb1 B0
    obtain ⟨p0, p1, pf, pl⟩ := B1.out
    go_wp2_with fail
    refine (seHand_any F n r c b lo hi _ _ (HV.out.below (B := w.heap.size) HB1.out hhi) (by have := HB1.out.size; omega) HG.out HA.out).mono ?_
    rintro e w2 ⟨v2, rfl, ho2, hb2⟩
    have B2 := hide (B1.out.below hb2 B1.out.lt)
    have HB2 : Hid (Below w.heap.size w w2) := HB1.out.trans (hb2.mono HB1.out.size)
    have HO2 := hide (own_row ho2).sl
    clear ho2 hb2 p0 p1 pf pl
    have har := (fl_area HG.out).2
    have har1 := (fl_area HG.out).1
    have hK := (hwK_facts (b := b) HA.out).1
    obtain ⟨A2, c2, rfl, _, _⟩ := id HO2.out.open_
    go_wp2_with fail
    refine (seNear_any F n _ _ _ lo hi _ _ _ _ _ (HV.out.below (B := w.heap.size) HB2.out hhi) (by have := HB2.out.size; omega) HO2.out (Nat.le_refl _) HG.out (by omega) (hw_opens HA.out)).mono ?_
    rintro e w3 ⟨v3, rfl, hr3, hb3⟩
    have B3 := hide (B2.out.below hb3 B2.out.lt)
    have HB3 : Hid (Below w.heap.size w w3) := HB2.out.trans (hb3.mono HB2.out.size)
    have HN3 := hide (own_flt hr3).sl
    clear hr3 hb3 HO2
    obtain ⟨p0, p1, pf, pl⟩ := B3.out
    obtain ⟨A3, c3, rfl, _, _⟩ := id HN3.out.open_
    go_wp2_with fail
    refine (seSteps_any F n r c lo hi _ _ (HV.out.below (B := w.heap.size) HB3.out hhi) (by have := HB3.out.size; omega) HG.out HA.out).mono ?_
    rintro e w4 ⟨g, co, rfl, ho4, hg1, hg2, hb4⟩
    have HB4 : Hid (Below w.heap.size w w4) := HB3.out.trans (hb4.mono HB3.out.size)
    have HN4 := hide (HN3.out.below hb4 (Nat.le_refl _))
    have HS4 := hide ho4
    have hl3 := HB3.out.size
    clear ho4 hb4 p0 p1 pf pl HN3
    obtain ⟨N, hN⟩ : ∃ N, N = n * (F 0).size := ⟨_, rfl⟩
    rw [← hN] at har har1
    rw [← hN] at HS4 HN4
    (try rw [← hN])
    have HN := hide hN
    clear hN
    go_wp2_with fail
    go_loopg [9, 26] (N + 1) (fun gn a bv wr => ∃ t : Nat, t ≤ N ∧ N - t < gn ∧ bv = .int .i64 t ∧ Hid (PRowI wr w4.heap.size a (unP F n r c b) t) ∧ Hid (Below w4.heap.size w4 wr))
    case atStart => exact ⟨0, by omega, by omega, rfl, (by show PRowI _ _ _ _ _; exact World.ownsRow_nil _ _ _ _), Below.refl _ _⟩
    case round =>
      obtain ⟨t, ht, hgt, rfl, HR, HB⟩ := hrel
      have hz := HB.out.size
      have hz4 := HB4.out.size
      by_cases htN : t < N
      · have hst : wr.cell? ⟨g, t, none⟩ = some (.int .i64 (stF F n (r, c) t)) := (HB.out.cell (p := ⟨g, t, none⟩) hg2).trans ((HS4.out.cell (by omega) (o := t) (by omega)).2.2 htN)
        have lg : g < wr.heap.size := by omega
        have HNF : Hid (hasN (fltI (nrF F n (hwR F n b (r, c)) (hwC F n b (r, c)) (hwK F n b (r, c) + 1)) N) t (flt (nrF F n (hwR F n b (r, c)) (hwC F n b (r, c)) (hwK F n b (r, c) + 1)) N).length = nrF F n (hwR F n b (r, c)) (hwC F n b (r, c)) (hwK F n b (r, c) + 1) t) := hasN_flt htN
        have hfl := flt_len (nrF F n (hwR F n b (r, c)) (hwC F n b (r, c)) (hwK F n b (r, c) + 1)) N
        by_cases h0 : 0 ≤ stF F n (r, c) t
        · have d0 : decide (stF F n (r, c) t ≥ 0) = true := decide_eq_true h0
          have d0' : decide (0 ≤ stF F n (r, c) t) = true := decide_eq_true h0
          go_wp2_with fail
          refine (l1Has_any _ _ t w2.heap.size w3.heap.size _ _ (HN4.out.below (B := w4.heap.size) HB.out (by omega)) (by omega) (by omega)).mono ?_
          rintro e w5 ⟨rfl, rfl⟩
          rw [HNF.out]
          obtain ⟨tst, htst⟩ : ∃ q, nrF F n (hwR F n b (r, c)) (hwC F n b (r, c)) (hwK F n b (r, c) + 1) t = q := ⟨_, rfl⟩
          rw [htst]
          have HP : Hid (unP F n r c b t = !tst) := by show _ = _; rw [unP, d0', htst]; rfl
          clear htst hst HNF
          cases tst with
          | true =>
            go_wp2_with fail
            go_roundg (N - t)
            case measure => omega
            case rel => exact ⟨t + 1, by omega, by omega, by go_num, (by show World.ownsRow _ _ _ _ _ _ _; rw [fltV, flt_no HP.out]; exact HR.out), HB.out⟩
          | false =>
            have hln := flt_len (unP F n r c b) t
            go_wp2_with (at_builtin; refine wpList_append_own _ rfl _ _ 48 rfl w4.heap.size 3 ii (.int .i64 0) 1 8 Tryd.underlying48 hii iz0 iz1 iz2 rfl (by decide) _ _ _ rfl (World.ownsRow.alloc HR.out _) ⟨wr.heap.size, 0, none⟩ 1 1 [.int .i64 t] rfl rfl ?_ ?_ ?_ ?_ ?_ ?_)
            · intro i u hu
              match i, hu with
              | 0, hu => simp at hu; subst hu; simp [go_sem, Addr.add]
            · intro u hu; simp at hu; subst hu; rfl
            · unfold maxLen; omega
            · omega
            · simp; omega
            intro v' w6 hown6 hg6 _
            have HB6 : Hid (Below w4.heap.size w4 w6) := (HB.out.alloc (by omega) _).grown hg6 (by simp; omega) (fun g hg => (World.ownsRow.lt HR.out g hg).1)
            have HR6 : Hid (PRowI w6 w4.heap.size v' (unP F n r c b) (t + 1)) := by
              show World.ownsRow _ _ _ _ _ _ _
              rw [fltV, flt_yes HP.out, List.length_append, List.map_append]
              exact hown6
            clear hown6 hg6
            go_wp2_with fail
            go_roundg (N - t)
            case measure => omega
            case rel => exact ⟨t + 1, by omega, by omega, by go_num, HR6.out, HB6.out⟩
        · have d0 : decide (stF F n (r, c) t ≥ 0) = false := decide_eq_false h0
          have d0' : decide (0 ≤ stF F n (r, c) t) = false := decide_eq_false h0
          have HP : Hid (unP F n r c b t = false) := by show _ = _; rw [unP, d0']; rfl
          go_wp2_with fail
          go_roundg (N - t)
          case measure => omega
          case rel => exact ⟨t + 1, by omega, by omega, by go_num, (by show World.ownsRow _ _ _ _ _ _ _; rw [fltV, flt_no HP.out]; exact HR.out), HB.out⟩
      · obtain rfl : t = N := by omega
        have HBw : Hid (Below w.heap.size w wr) := HB4.out.trans (HB.out.mono hz4)
        have HO := hide (own_flt HR.out)
        have hfl := flt_len (unP F n r c b) t
        obtain ⟨A5, c5, rfl, _, _⟩ := id HO.out.sl.open_
        go_wp2_with fail
        refine (seCells_any F n (fltI (unP F n r c b) t) (flt (unP F n r c b) t).length lo hi w4.heap.size wr.heap.size _ _ _ (HV.out.below (B := w.heap.size) HBw.out hhi) (by omega) HO.out.sl (Nat.le_refl _) HG.out (by omega) (fun i hi => by have := fltI_lt hi; omega)).mono ?_
        rintro e w6 ⟨v6, rfl, hr6, hb6⟩
        have HB6 : Hid (Below w.heap.size w w6) := HBw.out.trans (hb6.mono HBw.out.size)
        have HR6 := hide hr6
        clear hr6 hb6
        obtain ⟨A6, c6, rfl⟩ := row_form HR6.out
        go_wp2_with fail
        go_ret2
        refine un_row HX.out (lo := wr.heap.size) ?_ (by omega) HB6.out
        rw [← HN.out]
        have h := HR6.out
        rw [show unR F n r c b = fun i => fltI (unP F n r c b) t i / ((F 0).size : Int) by funext i; rw [unR, rI, ← HN.out], show unC F n r c b = fun i => fltI (unP F n r c b) t i % ((F 0).size : Int) by funext i; rw [unC, cI, ← HN.out]]
        exact h
set_option maxRecDepth 100000 in
set_option maxHeartbeats 3200000 in
theorem UnsearchedCells_impl (F : Nat → ByteArray) (n : Nat) (r c : Int) (b : Bool) (lo hi : Nat) (v : Value) (w : World) (hv : Sl w lo hi 1 v n (sC F)) (hhi : hi ≤ w.heap.size) (hf : ffits F n) :
    Calls Tryd.prog 27 #[v, .agg #[.int .i64 r, .int .i64 c], .bool b] w (UnRes F n r c b w) := by
  obtain ⟨A, cap, rfl, hcap, hA⟩ := id hv.open_
  have HV := hide hv
  clear hv
  obtain ⟨ii, hii, iz0, iz1, iz2⟩ := info_parts infoCell2
  have B0 := Bx2.new w r c
  go_enter Tryd.func27, Tryd.ntmps27
  go_wp2_with fail
  refine (isFloor_any F n lo hi _ _ (HV.out.below (B := w.heap.size) (by repeat (first | (with_reducible exact Below.refl _ _) | (with_reducible refine below_ov ?_ ?_) | (with_reducible refine Below.setCell ?_ ?_ _) | (with_reducible refine Below.alloc ?_ ?_ _) | (with_reducible refine Below.drew ?_) | (with_reducible refine below_drewN ?_ _) | (refine Below.trans ?_ (Below.mono ‹Below _ _ _› (by first | omega | (simp; done) | (simp; omega)))) | exact Below.refl _ _ | omega | (focus (simp; done)) | (focus (simp; omega)))) hhi) (by first | omega | (simp; done) | (simp; omega)) hf).mono ?_
  rintro e w0 ⟨rfl, hb0⟩
  have P0 := hide (B0.below hb0 (by simp))
  have HB0 : Hid (Below w.heap.size w w0) := ((Below.refl w.heap.size w).alloc (Nat.le_refl _) _).trans (hb0.mono (by simp))
  clear hb0 B0
  cases e0 : flB F n with
  | false =>
    have HX : Hid (sfOk F n r c = false) := by show _ = _; rw [sfOk, e0]; rfl
    clear hA
    go_wp2_with fail
    go_ret2
    exact un_nil HX.out HB0.out
  | true =>
  have HG := hide e0
  obtain ⟨p0, p1, pf, pl⟩ := P0.out
  clear e0
  go_wp2_with fail
  refine (isOpen_any F n r c lo hi _ _ (HV.out.below (B := w.heap.size) HB0.out hhi) (by have := HB0.out.size; omega) HG.out).mono ?_
  rintro e w1 ⟨rfl, hb1⟩
  have P1 := hide (P0.out.below hb1 P0.out.lt)
  have HB1 : Hid (Below w.heap.size w w1) := HB0.out.trans (hb1.mono HB0.out.size)
  clear p0 p1 pf pl hb1
  cases e1 : opB F n r c with
  | false =>
    have HX : Hid (sfOk F n r c = false) := by show _ = _; rw [sfOk, e1]; simp
    clear hA
    go_wp2_with fail
    go_ret2
    exact un_nil HX.out HB1.out
  | true =>
  have HA : Hid (opP F n (r, c) = true) := e1
  have HX : Hid (sfOk F n r c = true) := by show _ = _; rw [sfOk, HG.out, e1]; rfl
  clear e1
  have har := (fl_area HG.out).2
  have har1 := (fl_area HG.out).1
  have hK := (hwK_facts (b := b) HA.out).1
  obtain ⟨g1, g2, g3, g4, _, _⟩ := flB_facts HG.out
  obtain ⟨blk, off, rfl, h1, h2, h3⟩ := hA (by omega)
  have c0 : w.cell? ⟨blk, off, none⟩ = some (.string (F 0)) := by simpa [sC] using h3 0 0 (by omega) (by omega)
  have l0 : blk < w.heap.size := by omega
  have HC1 : Hid (w1.cell? ⟨blk, off, none⟩ = some (.string (F 0))) := (HB1.out.cell (p := ⟨blk, off, none⟩) l0).trans c0
  have hn0 : n ≠ 0 := by omega
  have hl1 : blk < w1.heap.size := by have := HB1.out.size; omega
  clear hA h3 c0
  go_wp2_with fail
  refine wp_region_mixd [(0, true), (1, true), (2, true), (3, true), (6, true), (7, true), (8, true), (9, true), (4, false), (5, false), (10, true), (11, true)] (fun W => Below w1.heap.size w1 W) (by kernel_rfl) (by kernel_rfl) (by kernel_rfl) (by kernel_rfl) (Below.drew (Below.refl _ _)) ?_
  intro wd hwd hbd
  have HCC : Hid (∀ W, Below w1.heap.size w1 W → (W.cell? ⟨w.heap.size, 0, none⟩ = some (.int .i64 r) ∧ W.cell? ⟨w.heap.size, 1, none⟩ = some (.int .i64 c)) ∧ W.cell? ⟨blk, off, none⟩ = some (.string (F 0))) := fun W hW =>
    ⟨⟨(P1.out.below hW P1.out.lt).c0, (P1.out.below hW P1.out.lt).c1⟩, (hW.cell (p := ⟨blk, off, none⟩) hl1).trans HC1.out⟩
  refine mix_look _ _ rfl rfl (fun w' _ => BigFrame.run_move _ rfl w') ?_
  go_simp
  refine mix_look _ _ rfl rfl (fun w' _ => BigFrame.run_move _ rfl w') ?_
  go_simp
  refine mix_look _ (.agg #[.int .i64 r, .int .i64 c]) rfl rfl (fun w' hw' => (by obtain ⟨⟨a0, a1⟩, a2⟩ := HCC.out w' hw'; go_simp)) ?_
  go_simp
  refine mix_look _ _ rfl rfl (fun w' _ => BigFrame.run_move _ rfl w') ?_
  go_simp
  refine mix_look _ _ rfl rfl (fun w' _ => BigFrame.run_move _ rfl w') ?_
  go_simp
  refine mix_look _ (.pointer (some ⟨blk, off, none⟩)) rfl rfl (fun w' hw' => (by go_simp)) ?_
  go_simp
  refine mix_look _ (.string (F 0)) rfl rfl (fun w' hw' => (by obtain ⟨⟨a0, a1⟩, a2⟩ := HCC.out w' hw'; go_simp)) ?_
  go_simp
  refine mix_look _ (.int .i64 (F 0).size) rfl rfl (fun w' hw' => (by go_simp)) ?_
  go_simp
  refine mix_call _ 65 #[.slice (some ⟨blk, off, none⟩) n cap, .agg #[.int .i64 r, .int .i64 c], .bool b] rfl rfl (by go_simp) ?_
  have HBd : Hid (Below w.heap.size w wd) := HB1.out.trans (hbd.mono HB1.out.size)
  refine (handWay_any F n r c b lo hi _ _ (HV.out.below (B := w.heap.size) HBd.out hhi) (by have := HBd.out.size; omega) HG.out HA.out).mono ?_
  rintro e w2 ⟨v2, rfl, ho2, hb2⟩
  have hb12 : Below w1.heap.size w1 w2 := hbd.trans (hb2.mono hbd.size)
  have HB2 : Hid (Below w.heap.size w w2) := HBd.out.trans (hb2.mono HBd.out.size)
  have HO2 := hide (own_row ho2).sl
  clear ho2 hb2
  refine ⟨_, rfl, hb12, ?_⟩
  obtain ⟨A2, c2, rfl, _, _⟩ := id HO2.out.open_
  go_simp
  refine mix_call _ 60 #[.slice (some ⟨blk, off, none⟩) n cap, .slice A2 (hwK F n b (r, c) + 1) c2] rfl rfl (by go_simp) ?_
  refine (searchedCells_any F n _ _ _ lo hi _ _ _ _ _ (HV.out.below (B := w.heap.size) HB2.out hhi) (by have := HB2.out.size; omega) HO2.out (Nat.le_refl _) HG.out (by omega) (hw_opens HA.out)).mono ?_
  rintro e w3 ⟨v3, rfl, hr3, hb3⟩
  have hb13 : Below w1.heap.size w1 w3 := hb12.trans (hb3.mono hb12.size)
  have HB3 : Hid (Below w.heap.size w w3) := HB2.out.trans (hb3.mono HB2.out.size)
  rw [fltC_row] at hr3
  have HN3 := hide (own_row hr3).sl
  clear hr3 hb3 hb12 HO2
  refine ⟨_, rfl, hb13, ?_⟩
  obtain ⟨A3, c3, rfl, _, _⟩ := id HN3.out.open_
  go_simp
  refine mix_look _ _ rfl rfl (fun w' _ => BigFrame.run_assign _ rfl w') ?_
  go_simp
  refine mix_look _ _ rfl rfl (fun w' _ => BigFrame.run_assign _ rfl w') ?_
  go_simp
  refine wpMix_nil ?_
  have P3 := hide (P1.out.below hb13 P1.out.lt)
  clear hb13 HCC hwd hbd HBd
  obtain ⟨p0, p1, pf, pl⟩ := P3.out
  go_wp2_with fail
  refine (stepsFrom_any F n r c lo hi _ _ (HV.out.below (B := w.heap.size) HB3.out hhi) (by have := HB3.out.size; omega) HG.out HA.out).mono ?_
  rintro e w4 ⟨g, rfl, ho4, hg1, hg2, hb4⟩
  have HB4 : Hid (Below w.heap.size w w4) := HB3.out.trans (hb4.mono HB3.out.size)
  have HN4 := hide (HN3.out.below hb4 (Nat.le_refl _))
  have HS4 := hide ho4
  have hl3 := HB3.out.size
  clear ho4 hb4 p0 p1 pf pl HN3
  obtain ⟨N, hN⟩ : ∃ N, N = n * (F 0).size := ⟨_, rfl⟩
  rw [← hN] at har har1
  rw [← hN] at HS4 HN4
  (try rw [← hN])
  have HN := hide hN
  clear hN
  obtain ⟨W, hW⟩ : ∃ W, W = (F 0).size := ⟨_, rfl⟩
  rw [← hW] at g3 g4 HN4
  (try rw [← hW])
  have HW := hide hW
  clear hW
  go_wp2_with fail
  go_loopg [10, 37] (N + 1) (fun gn a bv wr => ∃ t : Nat, t ≤ N ∧ N - t < gn ∧ bv = .int .i64 t ∧ Hid (wr.ownsRow w4.heap.size 38 2 a (flt (unP F n r c b) t).length (fltC W (unP F n r c b) t)) ∧ Hid (Below w4.heap.size w4 wr))
  case atStart => exact ⟨0, by omega, by omega, rfl, World.ownsRow_nil _ _ _ _, Below.refl _ _⟩
  case round =>
    obtain ⟨t, ht, hgt, rfl, HR, HB⟩ := hrel
    have hz := HB.out.size
    have hz4 := HB4.out.size
    by_cases htN : t < N
    · have hst : wr.cell? ⟨g, t, none⟩ = some (.int .i64 (stF F n (r, c) t)) := (HB.out.cell (p := ⟨g, t, none⟩) hg2).trans ((HS4.out.cell (by omega) (o := t) (by omega)).2.2 htN)
      have lg : g < wr.heap.size := by omega
      obtain ⟨z1, z2⟩ := div_in t W (by omega)
      have hW0 : (W : Int) ≠ 0 := by omega
      have hW1 : W ≠ 0 := by omega
      have Z3 : Hid ((t : Int).tmod (W : Int) = (t : Int) % (W : Int)) := Int.tmod_eq_emod_of_nonneg (by omega)
      have HPT : Hid (unP F n r c b t = (decide (0 ≤ stF F n (r, c) t) && !nrF F n (hwR F n b (r, c)) (hwC F n b (r, c)) (hwK F n b (r, c) + 1) t)) := rfl
      have HCF : Hid (hasC (rI W (nrF F n (hwR F n b (r, c)) (hwC F n b (r, c)) (hwK F n b (r, c) + 1)) N) (cI W (nrF F n (hwR F n b (r, c)) (hwC F n b (r, c)) (hwK F n b (r, c) + 1)) N) ((t : Int) / (W : Int)) ((t : Int) % (W : Int)) (flt (nrF F n (hwR F n b (r, c)) (hwC F n b (r, c)) (hwK F n b (r, c) + 1)) N).length = nrF F n (hwR F n b (r, c)) (hwC F n b (r, c)) (hwK F n b (r, c) + 1) t) := hasC_flt (by omega) htN
      have hfl := flt_len (nrF F n (hwR F n b (r, c)) (hwC F n b (r, c)) (hwK F n b (r, c) + 1)) N
      go_wp2_with fail
      clear hst
      refine wp_region_mix [(0, true), (1, true), (2, true), (3, true), (4, true), (5, true), (6, true), (7, false), (8, false)] (fun _ => True) (by kernel_rfl) (by kernel_rfl) (by kernel_rfl) (by kernel_rfl) trivial ?_
      refine mix_look _ _ rfl rfl (fun w' _ => BigFrame.run_move _ rfl w') ?_
      go_simp
      refine mix_look _ _ rfl rfl (fun w' _ => BigFrame.run_move _ rfl w') ?_
      go_simp
      refine mix_look _ (.int .i64 ((t : Int) / (W : Int))) rfl rfl (fun w' hw' => (by go_simp)) ?_
      go_simp
      refine mix_look _ _ rfl rfl (fun w' _ => BigFrame.run_move _ rfl w') ?_
      go_simp
      refine mix_look _ _ rfl rfl (fun w' _ => BigFrame.run_move _ rfl w') ?_
      go_simp
      refine mix_look _ (.int .i64 ((t : Int) % (W : Int))) rfl rfl (fun w' hw' => (by go_simp; exact Z3.out)) ?_
      go_simp
      refine mix_look _ (.agg #[.int .i64 ((t : Int) / (W : Int)), .int .i64 ((t : Int) % (W : Int))]) rfl rfl (fun w' hw' => (by go_simp)) ?_
      go_simp
      obtain ⟨qx, hqx⟩ : ∃ q, q = (t : Int) / (W : Int) := ⟨_, rfl⟩
      obtain ⟨qy, hqy⟩ : ∃ q, q = (t : Int) % (W : Int) := ⟨_, rfl⟩
      rw [← hqx, ← hqy] at HCF
      rw [← hqx, ← hqy]
      have HQX := hide hqx
      have HQY := hide hqy
      clear hqx hqy z1 z2
      refine mix_value _ (.pointer (some ⟨wr.heap.size, 0, none⟩)) (wr.drew.alloc (.cells #[.int .i64 0, .int .i64 0] 38)) rfl rfl (by go_simp) trivial ?_
      go_simp
      obtain ⟨W5, hW5⟩ : ∃ W5, W5 = ((wr.drew.alloc (.cells #[.int .i64 0, .int .i64 0] 38)).setCell ⟨wr.heap.size, 0, none⟩ (.int .i64 qx)).setCell ⟨wr.heap.size, 1, none⟩ (.int .i64 qy) := ⟨_, rfl⟩
      have HW5 := hide hW5
      have X5 : Hid (Bx2 W5 wr.heap.size qx qy) := by
        show Bx2 _ _ _ _
        rw [hW5]
        exact (Bx2.new wr.drew 0 0).set qx qy
      have HB5 : Hid (Below w4.heap.size w4 W5) := by
        show Below _ _ _
        rw [hW5]
        exact (((Below.drew HB.out).alloc hz _).setCell hz _).setCell hz _
      have HR5 : Hid (W5.ownsRow w4.heap.size 38 2 u10 (flt (unP F n r c b) t).length (fltC W (unP F n r c b) t)) := by
        show World.ownsRow _ _ _ _ _ _ _
        refine row_keep HR.out fun q hq => ?_
        have hlt := (World.ownsRow.lt HR.out q hq).2
        rw [hW5]
        exact (Deep.blk_setCell_other _ _ _ _ (by show q ≠ wr.heap.size; omega)).trans ((Deep.blk_setCell_other _ _ _ _ (by show q ≠ wr.heap.size; omega)).trans (Deep.blk_alloc_lt wr.drew _ _ hlt))
      clear hW5
      refine mix_store _ W5 rfl rfl (by rw [HW5.out]; go_simp) trivial ?_
      go_simp
      refine wpMix_nil ?_
      obtain ⟨q0, q1, qf, ql⟩ := X5.out
      by_cases h0 : 0 ≤ stF F n (r, c) t
      · have d0 : decide (stF F n (r, c) t ≥ 0) = true := decide_eq_true h0
        have d0' : decide (0 ≤ stF F n (r, c) t) = true := decide_eq_true h0
        go_wp2_with fail
        have ContW := (ContainsCell_any (rI W (nrF F n (hwR F n b (r, c)) (hwC F n b (r, c)) (hwK F n b (r, c) + 1)) N) (cI W (nrF F n (hwR F n b (r, c)) (hwC F n b (r, c)) (hwK F n b (r, c) + 1)) N) (flt (nrF F n (hwR F n b (r, c)) (hwC F n b (r, c)) (hwK F n b (r, c) + 1)) N).length qx qy w2.heap.size w3.heap.size (.slice A3 (flt (nrF F n (hwR F n b (r, c)) (hwC F n b (r, c)) (hwK F n b (r, c) + 1)) N).length c3) W5 (HN4.out.below (B := w4.heap.size) HB5.out (by omega)) (by have := HB5.out.size; omega) (by omega))
        refine ContW.mono ?_
        rintro e w6 ⟨rfl, hb6⟩
        rw [HCF.out]
        obtain ⟨tst, htst⟩ : ∃ q, nrF F n (hwR F n b (r, c)) (hwC F n b (r, c)) (hwK F n b (r, c) + 1) t = q := ⟨_, rfl⟩
        rw [htst]
        have HP : Hid (unP F n r c b t = !tst) := by show _ = _; rw [HPT.out, d0', htst]; rfl
        have X6 := hide (X5.out.below hb6 ql)
        have HB6 : Hid (Below w4.heap.size w4 w6) := HB5.out.trans (hb6.mono HB5.out.size)
        have HR6 := hide (row_below HR5.out hb6 (Nat.le_refl _))
        clear htst q0 q1 qf ql hb6 HCF
        cases tst with
        | true =>
          go_wp2_with fail
          go_roundg (N - t)
          case measure => omega
          case rel => exact ⟨t + 1, by omega, by omega, by go_num, (by show World.ownsRow _ _ _ _ _ _ _; rw [flt_no HP.out, fltC_no HP.out]; exact HR6.out), HB6.out⟩
        | false =>
          have hln := flt_len (unP F n r c b) t
          obtain ⟨q0, q1, qf, ql⟩ := X6.out
          have hz6 := HB6.out.size
          go_wp2_with (at_builtin; refine wpList_append_own _ rfl _ _ 26 rfl w4.heap.size 38 ii (.agg #[.int .i64 0, .int .i64 0]) 2 16 Tryd.underlying26 hii iz0 iz1 iz2 rfl (by decide) _ _ _ rfl (World.ownsRow.alloc HR6.out _) ⟨w6.heap.size, 0, none⟩ 1 1 [.int .i64 qx, .int .i64 qy] rfl rfl ?_ ?_ ?_ ?_ ?_ ?_)
          · intro i u hu
            match i, hu with
            | 0, hu => simp at hu; subst hu; simp [go_sem, Addr.add]
            | 1, hu => simp at hu; subst hu; simp [go_sem, Addr.add]
          · intro u hu; simp at hu; rcases hu with rfl | rfl <;> rfl
          · unfold maxLen; omega
          · omega
          · simp; omega
          intro v' w7 hown7 hg7 _
          have HB7 : Hid (Below w4.heap.size w4 w7) := (HB6.out.alloc (by omega) _).grown hg7 (by simp; omega) (fun g hg => (World.ownsRow.lt HR6.out g hg).1)
          have HR7 : Hid (w7.ownsRow w4.heap.size 38 2 v' (flt (unP F n r c b) (t + 1)).length (fltC W (unP F n r c b) (t + 1))) := by
            show World.ownsRow _ _ _ _ _ _ _
            rw [flt_yes HP.out, List.length_append, fltC_yes HP.out, ← HQX.out, ← HQY.out]
            exact hown7
          clear hown7 hg7 q0 q1 qf ql
          go_wp2_with fail
          go_roundg (N - t)
          case measure => omega
          case rel => exact ⟨t + 1, by omega, by omega, by go_num, HR7.out, HB7.out⟩
      · have d0 : decide (stF F n (r, c) t ≥ 0) = false := decide_eq_false h0
        have d0' : decide (0 ≤ stF F n (r, c) t) = false := decide_eq_false h0
        have HP : Hid (unP F n r c b t = false) := by show _ = _; rw [HPT.out, d0']; rfl
        go_wp2_with fail
        go_roundg (N - t)
        case measure => omega
        case rel => exact ⟨t + 1, by omega, by omega, by go_num, (by show World.ownsRow _ _ _ _ _ _ _; rw [flt_no HP.out, fltC_no HP.out]; exact HR5.out), HB5.out⟩
    · obtain rfl : t = N := by omega
      have HBw : Hid (Below w.heap.size w wr) := HB4.out.trans (HB.out.mono hz4)
      obtain ⟨A5, c5, rfl⟩ := row_form HR.out
      go_wp2_with fail
      go_ret2
      refine un_row HX.out (lo := w4.heap.size) ?_ hz4 HBw.out
      rw [← HN.out, unR, unC, ← HN.out, ← HW.out, ← fltC_row]
      exact HR.out

end Go.Proofs.YtpckhpkbdanjoaaDoor

/-
  Plain words for FnSearches: the way by hand goes from neighbour to neighbour; what is unsearched is not searched. No program in sight.-/
namespace Go.Proofs.YtpckhpkbdanjoaaDoor
set_option linter.unusedVariables false
set_option linter.unusedSimpArgs false

theorem dRC_one {d : Nat} (h : d < 4) : (dR d).natAbs + (dC d).natAbs = 1 := by
  match d, h with
  | 0, _ => rfl
  | 1, _ => rfl
  | 2, _ => rfl
  | 3, _ => rfl
section
variable {F : Nat → ByteArray} {n : Nat} {r c : Int} {b : Bool}
theorem hand_first (h : sfOk F n r c = true) : 1 ≤ hwN F n r c b ∧ hwRf F n r c b 0 = r ∧ hwCf F n r c b 0 = c := by
  rw [hwN, if_pos h]
  exact ⟨by omega, rfl, rfl⟩
theorem hand_open (h : sfOk F n r c = true) {i : Nat} (hi : i < hwN F n r c b) : opB F n (hwRf F n r c b i) (hwCf F n r c b i) = true := by
  rw [hwN, if_pos h] at hi
  exact hw_opens (a := (r, c)) (show opP F n (r, c) = true from (sf_two h).2) i hi
theorem hand_next (h : sfOk F n r c = true) {i : Nat} (hi : i + 1 < hwN F n r c b) : (hwRf F n r c b (i + 1) - hwRf F n r c b i).natAbs + (hwCf F n r c b (i + 1) - hwCf F n r c b i).natAbs = 1 := by
  rw [hwN, if_pos h] at hi
  have hf := hwK_facts (F := F) (n := n) (b := b) (a := (r, c)) (sf_two h).2
  have hx := hf.2.2 i (by omega)
  have hj : ¬ hwJ F n b (r, c) i < 0 := by
    intro hj
    rw [hwX, decide_eq_true hj] at hx
    cases hx
  have hb := hwJ_bd (F := F) (n := n) (b := b) (a := (r, c)) i
  have hd : (hwJ F n b (r, c) i).toNat < 4 := by omega
  have e := hwP_next (F := F) (n := n) (b := b) (a := (r, c)) (t := i)
  have h1 := dRC_one hd
  show ((hwP F n b (r, c) (i + 1)).1 - (hwP F n b (r, c) i).1).natAbs + ((hwP F n b (r, c) (i + 1)).2 - (hwP F n b (r, c) i).2).natAbs = 1
  rw [e]
  show ((hwP F n b (r, c) i).1 + dR _ - (hwP F n b (r, c) i).1).natAbs + ((hwP F n b (r, c) i).2 + dC _ - (hwP F n b (r, c) i).2).natAbs = 1
  omega
end
/-- A number of a list that passes. -/
theorem fltI_mem {P : Nat → Bool} {N i : Nat} (hi : i < (flt P N).length) : ∃ k, k < N ∧ P k = true ∧ fltI P N i = (k : Nat) := by
  have hm : (flt P N).getD i 0 ∈ flt P N := by
    simp only [List.getD]
    rw [List.getElem?_eq_getElem hi]
    exact List.getElem_mem hi
  have h := flt_has.1 hm
  exact ⟨_, h.1, h.2, rfl⟩
theorem cell_num {W : Nat} {P : Nat → Bool} {N i k : Nat} (h : fltI P N i = (k : Nat)) : rI W P N i * (W : Int) + cI W P N i = (k : Int) := by
  rw [rI, cI, h]
  exact Int.ediv_mul_add_emod _ _
/-- No cell of one list is in another that no number shares. -/
theorem cells_apart {W : Nat} {P Q : Nat → Bool} {N : Nat} (hPQ : ∀ k, k < N → P k = true → Q k = true → False) {i j : Nat} (hi : i < (flt P N).length) (hj : j < (flt Q N).length) : ¬ (rI W P N i = rI W Q N j ∧ cI W P N i = cI W Q N j) := by
  rintro ⟨h1, h2⟩
  obtain ⟨k, hk, hp, e⟩ := fltI_mem hi
  obtain ⟨k', hk', hq, e'⟩ := fltI_mem hj
  have a1 := cell_num (W := W) e
  have a2 := cell_num (W := W) e'
  rw [h1, h2] at a1
  have : k = k' := by omega
  subst this
  exact hPQ k hk hp hq
section
variable {F : Nat → ByteArray} {n : Nat} {r c : Int} {b : Bool}
/-- What is unsearched is not searched. -/
theorem uns_apart (h : sfOk F n r c = true) (hs : seOk F n (hwRf F n r c b) (hwCf F n r c b) (hwN F n r c b) = true) {i j : Nat} (hi : i < unN F n r c b) (hj : j < seN F n (hwRf F n r c b) (hwCf F n r c b) (hwN F n r c b)) :
    ¬ (unR F n r c b i = seR F n (hwRf F n r c b) (hwCf F n r c b) (hwN F n r c b) j ∧ unC F n r c b i = seC F n (hwRf F n r c b) (hwCf F n r c b) (hwN F n r c b) j) := by
  rw [unN, if_pos h] at hi
  rw [seN, if_pos hs] at hj
  refine cells_apart (W := (F 0).size) (fun k _ hp hq => ?_) hi hj
  rw [hwN, if_pos h] at hq
  simp only [unP, Bool.and_eq_true, Bool.not_eq_true'] at hp
  have h2 : nrF F n (hwR F n b (r, c)) (hwC F n b (r, c)) (hwK F n b (r, c) + 1) k = true := hq
  rw [hp.2] at h2
  cases h2
/-- What is unsearched is reached. -/
theorem uns_reached (h : sfOk F n r c = true) {i : Nat} (hi : i < unN F n r c b) : ∃ k : Nat, k < n * (F 0).size ∧ unR F n r c b i * ((F 0).size : Int) + unC F n r c b i = (k : Int) ∧ 0 ≤ sfO F n r c k := by
  rw [unN, if_pos h] at hi
  obtain ⟨k, hk, hp, e⟩ := fltI_mem hi
  simp only [unP, Bool.and_eq_true, decide_eq_true_eq] at hp
  exact ⟨k, hk, cell_num e, hp.1⟩
end

/-- Each cell of the list is among those searched. -/
theorem list_in {F : Nat → ByteArray} {n m : Nat} {p q : Nat → Int} (h : seOk F n p q m = true) {t : Nat} (ht : t < m) : hasC (seR F n p q m) (seC F n p q m) (p t) (q t) (seN F n p q m) = true := by
  obtain ⟨h1, h2, h3⟩ := se_facts h
  have ho := h3 t ht
  have hop : opP F n (p t, q t) = true := ho
  obtain ⟨a1, a2, a3, a4⟩ := opP_bd hop
  obtain ⟨x, hx⟩ : ∃ x : Nat, p t = x := ⟨_, (Int.toNat_of_nonneg a1).symm⟩
  obtain ⟨y, hy⟩ : ∃ y : Nat, q t = y := ⟨_, (Int.toNat_of_nonneg a3).symm⟩
  have hxn : x < n := by have h : p t < n := a2; omega
  have hyW : y < (F 0).size := by have h : q t < (F 0).size := a4; omega
  have hW : 0 < (F 0).size := by omega
  have hk : x * (F 0).size + y < n * (F 0).size := by
    have := Nat.mul_le_mul_right (F 0).size (show x + 1 ≤ n by omega)
    rw [Nat.add_mul, Nat.one_mul] at this
    omega
  have hnr : nrF F n p q m (x * (F 0).size + y) = true := by
    rw [nr_se hyW, seT, ← hx, ← hy, ho, Bool.true_and, anyN_iff]
    exact ⟨t, ht, by simp only [nearB, Bool.and_eq_true, inB_iff]; omega⟩
  have hc := hasC_flt (P := nrF F n p q m) hW hk
  rw [hnr] at hc
  have e1 : (((x * (F 0).size + y : Nat) : Int) / ((F 0).size : Int)) = (x : Int) := by
    rw [← Int.natCast_ediv, Nat.mul_comm, Nat.mul_add_div hW, Nat.div_eq_of_lt hyW]; rfl
  have e2 : (((x * (F 0).size + y : Nat) : Int) % ((F 0).size : Int)) = (y : Int) := by
    rw [← Int.natCast_emod, Nat.mul_comm, Nat.mul_add_mod, Nat.mod_eq_of_lt hyW]
  rw [e1, e2] at hc
  rw [hx, hy, seN, if_pos h]
  exact hc

end Go.Proofs.YtpckhpkbdanjoaaDoor

/-
  Plain words: the floor with the letters of the nearest starts. No program in sight.-/
namespace Go.Proofs.YtpckhpkbdanjoaaDoor
set_option linter.unusedVariables false
set_option linter.unusedSimpArgs false

/-- The first start with the least number of steps to a place, among the first j; or -1. -/
def shJ (st : Nat → Nat → Int) (i : Nat) : Nat → Int
  | 0 => -1
  | j + 1 => if 0 ≤ st j i ∧ (shJ st i j < 0 ∨ st j i < st (shJ st i j).toNat i) then (j : Nat) else shJ st i j
theorem shJ_bd (st : Nat → Nat → Int) (i : Nat) : ∀ j, -1 ≤ shJ st i j ∧ shJ st i j < j
  | 0 => by simp [shJ]
  | j + 1 => by
    have := shJ_bd st i j
    rw [shJ]
    split <;> omega
theorem shJ_yes {st : Nat → Nat → Int} {i j : Nat} (h : 0 ≤ st j i) (h' : shJ st i j < 0 ∨ st j i < st (shJ st i j).toNat i) : shJ st i (j + 1) = (j : Nat) := by rw [shJ, if_pos ⟨h, h'⟩]
theorem shJ_no {st : Nat → Nat → Int} {i j : Nat} (h : ¬ (0 ≤ st j i ∧ (shJ st i j < 0 ∨ st j i < st (shJ st i j).toNat i))) : shJ st i (j + 1) = shJ st i j := by rw [shJ, if_neg h]
/-- The byte at a place. -/
def shB (F : Nat → ByteArray) (st : Nat → Nat → Int) (m r k : Nat) : Int := if shJ st (r * (F 0).size + k) m < 0 then byteAt (F r) k else 97 + shJ st (r * (F 0).size + k) m
def shL (F : Nat → ByteArray) (st : Nat → Nat → Int) (m r k : Nat) : List Int := (List.range k).map (shB F st m r)
theorem shL_next (F : Nat → ByteArray) (st : Nat → Nat → Int) (m r k : Nat) : shL F st m r (k + 1) = shL F st m r k ++ [shB F st m r k] := by
  rw [shL, shL, List.range_succ, List.map_append]; rfl
theorem shL_len (F : Nat → ByteArray) (st : Nat → Nat → Int) (m r k : Nat) : (shL F st m r k).length = k := by simp [shL]
theorem nums_app (xs ys : List Int) : strOfNums (xs ++ ys) = strOfNums xs ++ strOfNums ys := by
  simp [strOfNums]
  rfl
/-- One row. -/
def shR (F : Nat → ByteArray) (st : Nat → Nat → Int) (m r : Nat) : ByteArray := strOfNums (shL F st m r (F 0).size)
theorem byteAt_bd (s : ByteArray) (i : Nat) : 0 ≤ byteAt s i ∧ byteAt s i ≤ 255 := by
  by_cases h : i < s.size
  · have h1 := byteAt_eq h
    have h2 := (s[i]'h).toNat_lt
    omega
  · have h1 : byteAt s i = 0 := by
      unfold byteAt
      simp [h]
    omega
theorem abc_at {d : Nat} (h : d < 8) : (⟨#[97, 98, 99, 100, 101, 102, 103, 104]⟩ : ByteArray).extract d (d + 1) = strOfNums [97 + (d : Int)] := by
  have h8 : d = 0 ∨ d = 1 ∨ d = 2 ∨ d = 3 ∨ d = 4 ∨ d = 5 ∨ d = 6 ∨ d = 7 := by omega
  rcases h8 with rfl | rfl | rfl | rfl | rfl | rfl | rfl | rfl <;> rfl
theorem one_at {s : ByteArray} {k : Nat} (h : k < s.size) : s.extract k (k + 1) = strOfNums [byteAt s k] := by
  apply ByteArray.ext
  rw [ByteArray.data_extract, ← byteAt_eq h]
  apply Array.ext
  · simp [strOfNums]
    have : s.data.size = s.size := rfl
    omega
  · intro i h1 h2
    have hi : i = 0 := by
      simp [strOfNums] at h2
      omega
    subst hi
    simp [strOfNums]
    rfl

end Go.Proofs.YtpckhpkbdanjoaaDoor

/-
  Walks: the floor with the letters of the nearest starts: the program's.-/
namespace Go.Proofs.YtpckhpkbdanjoaaDoor
set_option linter.unusedVariables false
set_option linter.unusedSimpArgs false
open Go.RowKit

/-- Lists of numbers in a list, each in a block of its own. -/
structure ShAll (w : World) (base : Nat) (v : Value) (N k : Nat) (st : Nat → Nat → Int) (β cp : Nat → Nat) : Prop where
  row : w.ownsRow base 48 1 v k ((List.range k).map fun j => .slice (some ⟨β j, 0, none⟩) N (cp j))
  num : ∀ j, j < k → OwnL w (β j) (β j + 1) 3 1 (.slice (some ⟨β j, 0, none⟩) N (cp j)) N N (fun i => .int .i64 (st j i)) ∧ β j < w.heap.size
section
variable {w w' : World} {base N k : Nat} {v : Value} {st : Nat → Nat → Int} {β cp : Nat → Nat}
theorem ShAll.below (h : ShAll w base v N k st β cp) (hb : Below w.heap.size w w') : ShAll w' base v N k st β cp :=
  ⟨row_below h.row hb (Nat.le_refl _), fun j hj => ⟨(h.num j hj).1.keep1 (hb.block _ (h.num j hj).2), Nat.lt_of_lt_of_le (h.num j hj).2 hb.size⟩⟩
theorem ShAll.form (h : ShAll w base v N k st β cp) (hk : 0 < k) : ∃ G cap, v = .slice (some ⟨G, 0, none⟩) k cap ∧ G < w.heap.size ∧ k ≤ cap := by
  rcases h.row.2 with ⟨_, h0⟩ | ⟨g, cap, cur, rfl, _, hh, hc, _⟩
  · omega
  · exact ⟨g, cap, rfl, (Array.getElem?_eq_some_iff.1 hh).1, hc⟩
theorem ShAll.at_ {G cap : Nat} (h : ShAll w base (.slice (some ⟨G, 0, none⟩) k cap) N k st β cp) {j : Nat} (hj : j < k) : w.cell? ⟨G, j, none⟩ = some (.slice (some ⟨β j, 0, none⟩) N (cp j)) := by
  rw [h.row.cellAt j (by omega), List.getElem?_map, List.getElem?_range hj]
  rfl
theorem ShAll.cell (h : ShAll w base v N k st β cp) {i j : Nat} (hj : j < k) (hi : i < N) : w.cell? ⟨β j, i, none⟩ = some (.int .i64 (st j i)) :=
  ((h.num j hj).1.cell (by omega) (o := i) (by omega)).2.2 hi
theorem ShAll.snoc {w3 : World} {v' : Value} {g co : Nat} (h : ShAll w base v N k st β cp) (hN : 0 < N) (ho : OwnL w g (g + 1) 3 1 (.slice (some ⟨g, 0, none⟩) N co) N N (fun i => .int .i64 (st k i))) (hg : g < w.heap.size) (o : Obj)
    (hr : w3.ownsRow base 48 1 v' (k + 1) (((List.range k).map fun j => .slice (some ⟨β j, 0, none⟩) N (cp j)) ++ [.slice (some ⟨g, 0, none⟩) N co])) (hgr : (w.alloc o).grownBy w3 v.ownBlock) :
    ∃ β' cp', ShAll w3 base v' N (k + 1) st β' cp' := by
  have hkeep : ∀ b, b < w.heap.size → (∃ cs, w.heap[b]? = some (.cells cs 3 (0, 0))) → w3.heap[b]? = w.heap[b]? := fun b hb ⟨cs, hcs⟩ =>
    (hgr.block b (by simp; omega) (fun e => row_apart h.row hcs (fun _ _ he => by injection he with _ he _; exact absurd he (by decide)) _ e.symm rfl)).trans (Deep.blk_alloc_lt _ _ _ hb)
  have hsz : w.heap.size ≤ w3.heap.size := Nat.le_trans (by simp) hgr.size
  refine ⟨fun j => if j = k then g else β j, fun j => if j = k then co else cp j, ?_, fun j hj => ?_⟩
  · rw [List.range_succ, List.map_append]
    have e : (List.range k).map (fun j => Value.slice (some ⟨if j = k then g else β j, 0, none⟩) N (if j = k then co else cp j)) = (List.range k).map fun j => .slice (some ⟨β j, 0, none⟩) N (cp j) := by
      apply List.map_congr_left
      intro j hj
      have : j ≠ k := by have := List.mem_range.1 hj; omega
      simp [this]
    rw [e]
    simpa using hr
  · by_cases e : j = k
    · subst e
      simp only [if_true]
      exact ⟨ho.keep1 (hkeep g hg (ho.heap_ hN)), Nat.lt_of_lt_of_le hg hsz⟩
    · simp only [e, if_false]
      have h1 := h.num j (by omega)
      exact ⟨h1.1.keep1 (hkeep _ h1.2 (h1.1.heap_ hN)), Nat.lt_of_lt_of_le h1.2 hsz⟩
end
/-- The bytes of a row, while its first k are told. -/
def shC (F : Nat → ByteArray) (st : Nat → Nat → Int) (m r k j : Nat) : Int := if j < k then shB F st m r j else byteAt (F r) j
def Line (w : World) (lb W : Nat) (f : Nat → Int) : Prop := lb < w.heap.size ∧ ∀ j, j < W → w.cell? ⟨lb, j, none⟩ = some (.int .u8 (f j)) ∧ w.frozen? ⟨lb, j, none⟩ = false
theorem Line.set {w : World} {lb W k : Nat} {f : Nat → Int} (h : Line w lb W f) (hk : k < W) (x : Int) : Line (w.setCell ⟨lb, k, none⟩ (.int .u8 x)) lb W (fun j => if j = k then x else f j) := by
  refine ⟨by simp [World.setCell]; exact h.1, fun j hj => ⟨?_, by simp [go_sem, (h.2 j hj).2]⟩⟩
  by_cases e : j = k
  · subst e
    simp [go_sem, (h.2 j hj).1]
  · simp only [e, if_false]
    exact (World.cell?_setCell_other w ⟨lb, k, none⟩ ⟨lb, j, none⟩ _ (fun h => e (by cases h; rfl))).trans (h.2 j hj).1
theorem Line.congr {w : World} {lb W : Nat} {f g : Nat → Int} (h : Line w lb W f) (hf : ∀ j, j < W → f j = g j) : Line w lb W g := ⟨h.1, fun j hj => ⟨by rw [← hf j hj]; exact (h.2 j hj).1, (h.2 j hj).2⟩⟩
theorem Line.new (w : World) (s : ByteArray) (cap e : Nat) : Line (w.alloc (.cells (bytesRow s cap) e ((bytesRow s cap).size, (bytesRow s cap).size + 1))) w.heap.size s.size (fun j => byteAt s j) := by
  have hh := heap_alloc_new w (.cells (bytesRow s cap) e ((bytesRow s cap).size, (bytesRow s cap).size + 1))
  refine ⟨by simp, fun j hj => ⟨?_, ?_⟩⟩
  · have hd : j < s.data.size := hj
    show _ = some (Value.int .u8 (byteAt s j))
    simp only [World.cell?, hh, ← byteAt_eq hj]
    rw [bytesRow, Array.getElem?_append_left (by simpa using hd), Array.getElem?_map, Array.getElem?_eq_getElem hd]
    rfl
  · have hsz : s.size ≤ (bytesRow s cap).size := by
      have e : s.data.size = s.size := rfl
      simp [bytesRow, e]
    simp only [World.frozen?, hh]
    simp
    omega
theorem shC_all {F : Nat → ByteArray} {st : Nat → Nat → Int} {m r : Nat} : (List.range (F 0).size).map (shC F st m r (F 0).size) = shL F st m r (F 0).size := by
  apply List.map_congr_left
  intro j hj
  have := List.mem_range.1 hj
  simp [shC, this]
theorem shC_step {F : Nat → ByteArray} {st : Nat → Nat → Int} {m r k : Nat} (j : Nat) : shC F st m r (k + 1) j = if j = k then shB F st m r k else shC F st m r k j := by
  by_cases e : j = k
  · subst e
    simp [shC]
  · by_cases h : j < k
    · simp [shC, e, h, show j < k + 1 by omega]
    · simp [shC, e, h, show ¬ j < k + 1 by omega]

end Go.Proofs.YtpckhpkbdanjoaaDoor
