/-
  Walks: FollowWay: the program's and the reference's.
-/
import Derived.Test.YtpckhpkbdanjoaaDoorWFol
import Derived.Test.YtpckhpkbdanjoaaDoorPBx
namespace Go.Proofs.YtpckhpkbdanjoaaDoor
set_option linter.unusedVariables false
set_option linter.unusedSimpArgs false
open Go.RowKit Go.Shelf

/-- What the call hands back. -/
def FwRes (F : Nat → ByteArray) (n : Nat) (r c : Int) (s : ByteArray) (w : World) (e : Ending) (w' : World) : Prop := e = .returned (.tuple #[.agg #[.int .i64 (fwP F n r c s).1, .int .i64 (fwP F n r c s).2], .bool (fwOk F n r c s)]) ∧ Below w.heap.size w w'
theorem fw_nil {F : Nat → ByteArray} {n : Nat} {r c : Int} {s : ByteArray} {w w' : World} (h : fwOk F n r c s = false) (hb : Below w.heap.size w w') : FwRes F n r c s w (.returned (.tuple #[.agg #[.int .i64 0, .int .i64 0], .bool false])) w' :=
  ⟨by rw [fwP, h]; rfl, hb⟩
theorem fw_at {F : Nat → ByteArray} {n : Nat} {r c : Int} {s : ByteArray} {w w' : World} {p : Int × Int} (h1 : sfOk F n r c = true) (h2 : s.size ≤ 200) (h : fwA F n (r, c) s s.size = some p) (hb : Below w.heap.size w w') : FwRes F n r c s w (.returned (.tuple #[.agg #[.int .i64 p.1, .int .i64 p.2], .bool true])) w' := by
  have h3 : fwOk F n r c s = true := by rw [fwOk, h1, h, decide_eq_true h2]; rfl
  exact ⟨by rw [fwP, if_pos h3, h, h3]; rfl, hb⟩
set_option maxRecDepth 100000 in
set_option maxHeartbeats 3200000 in
theorem FollowWay_spec (F : Nat → ByteArray) (n : Nat) (r c : Int) (s : ByteArray) (lo hi : Nat) (v : Value) (w : World) (hv : Sl w lo hi 1 v n (sC F)) (hhi : hi ≤ w.heap.size) (hf : ffits F n) (hms : s.size ≤ maxLen) :
    Calls Tryd.prog 37 #[v, .agg #[.int .i64 r, .int .i64 c], .string s] w (FwRes F n r c s w) := by
  obtain ⟨A, capF, rfl, hcap, hA⟩ := hv.open_
  unfold maxLen at hms
  clear hA
  go_enter Tryd.func37, Tryd.ntmps37
  go_wp2_with fail
  refine (seAsked_any F n r c lo hi _ _ (hv.below (B := w.heap.size) (by repeat (first | (with_reducible exact Below.refl _ _) | (with_reducible refine below_ov ?_ ?_) | (with_reducible refine Below.setCell ?_ ?_ _) | (with_reducible refine Below.alloc ?_ ?_ _) | (with_reducible refine Below.drew ?_) | (with_reducible refine below_drewN ?_ _) | (refine Below.trans ?_ (Below.mono ‹Below _ _ _› (by first | omega | (simp; done) | (simp; omega)))) | exact Below.refl _ _ | omega | (focus (simp; done)) | (focus (simp; omega)))) hhi) (by simp; omega) hf).mono ?_
  rintro e w1 ⟨rfl, hb1⟩
  have hz1 := hb1.size
  simp at hz1
  have hb01 : Below w.heap.size w w1 := (by repeat (first | (with_reducible exact Below.refl _ _) | (with_reducible refine below_ov ?_ ?_) | (with_reducible refine Below.setCell ?_ ?_ _) | (with_reducible refine Below.alloc ?_ ?_ _) | (with_reducible refine Below.drew ?_) | (with_reducible refine below_drewN ?_ _) | (refine Below.trans ?_ (Below.mono ‹Below _ _ _› (by first | omega | (simp; done) | (simp; omega)))) | exact Below.refl _ _ | omega | (focus (simp; done)) | (focus (simp; omega))))
  have B1 : Bx2 w1 w.heap.size r c := ((Bx2.new w r c).below ((Below.refl _ _).alloc (Nat.le_refl _) _) (by simp)).below hb1 (by simp; omega)
  have R1 : Bx2 w1 (w.heap.size + 1) 0 0 := by
    have h := Bx2.new (w.alloc (.cells #[.int .i64 r, .int .i64 c] 38)) 0 0
    simp only [World.size_alloc] at h
    exact h.below hb1 (by simp)
  cases e1 : sfOk F n r c with
  | false =>
    have HX : Hid (fwOk F n r c s = false) := by show _ = _; rw [fwOk, e1]; rfl
    obtain ⟨r0, r1, rf, rl⟩ := R1
    clear B1
    go_wp2_with fail
    refine bodyPost_ret (v := .tuple #[.agg #[.int .i64 0, .int .i64 0], .bool false]) (by simp [results, Tryd.results37, go_sem, *]) rfl (fw_nil HX.out ?_)
    exact (hb01.setCell (by simp) _).setCell (by simp) _
  | true =>
    have HS := hide e1
    have HGO : Hid (flB F n = true ∧ opB F n r c = true) := by
      show _ ∧ _
      simpa only [sfOk, Bool.and_eq_true] using e1
    clear e1
    by_cases hs2 : s.size ≤ 200
    · have d2 : decide ((s.size : Int) > 200) = false := decide_eq_false (by omega)
      have HB1 := hide B1
      have HR1 := hide R1
      clear B1 R1
      go_wp2_with fail
      go_loopg [8, 9] (s.size + 1) (fun gn iv dv wr => ∃ (k : Nat) (p : Int × Int), k ≤ s.size ∧ s.size - k < gn ∧ iv = .int .i64 k ∧ Hid (fwA F n (r, c) s k = some p) ∧ Hid (Bx2 wr w.heap.size p.1 p.2) ∧ Hid (Bx2 wr (w.heap.size + 1) 0 0) ∧ Below w.heap.size w wr)
      case atStart => exact ⟨0, (r, c), by omega, by omega, rfl, rfl, HB1, HR1, hb01⟩
      case round =>
        clear HB1 HR1
        obtain ⟨k, p, hk, hgk, rfl, HA, HB, HR, hb⟩ := hrel
        have hzr := hb.size
        obtain ⟨p0, p1, pf, pl⟩ := HB.out
        obtain ⟨r0, r1, rf, rl⟩ := HR.out
        by_cases hkn : k < s.size
        · have hby := byteAt_eq hkn
          have HOP := hide (fwA_open (show opP F n (r, c) = true from HGO.out.2) HA.out)
          rcases ltr_cases (s[k].toNat : Int) with ⟨hL, -⟩ | ⟨d, hd, -, hL⟩
          · have HX : Hid (fwOk F n r c s = false) := fw_no (fwA_bad HA.out (by rw [← hby]; exact hL)) (show k + 1 ≤ s.size by omega)
            clear hby
            go_wp2_with (go_at_call 84; refine (seLetter_any _ _).mono ?_; rintro e w' ⟨rfl, rfl⟩)
            refine bodyPost_ret (v := .tuple #[.agg #[.int .i64 0, .int .i64 0], .bool false]) (by simp [results, Tryd.results37, go_sem, *]) rfl (fw_nil HX.out ?_)
            exact (hb.setCell (by simp) _).setCell (by simp) _
          · have HL : Hid (ltr (byteAt s k) = d) := by show _ = _; rw [← hby]; exact hL
            clear hby
            obtain ⟨y, hy⟩ : ∃ y, stp p d = y := ⟨_, rfl⟩
            have HY := hide hy
            obtain ⟨b1, b2, b3, b4⟩ := opP_bd HOP.out
            obtain ⟨g1, g2, g3, g4, _, _⟩ := flB_facts HGO.out.1
            clear hy
            go_wp2_with (go_at_call 84; refine (seLetter_any _ _).mono ?_; rintro e w' ⟨rfl, rfl⟩)
            refine (seStep_p p y d _ HY.out hd (by omega) (by omega) (by omega) (by omega)).mono ?_
            rintro e w2 ⟨rfl, hb2⟩
            have hz2 := hb2.size
            go_wp2_with fail
            refine (seOpen_any F n y.1 y.2 lo hi _ _ (hv.below (B := w.heap.size) (by repeat (first | (with_reducible exact Below.refl _ _) | (with_reducible refine below_ov ?_ ?_) | (with_reducible refine Below.setCell ?_ ?_ _) | (with_reducible refine Below.alloc ?_ ?_ _) | (with_reducible refine Below.drew ?_) | (with_reducible refine below_drewN ?_ _) | (refine Below.trans ?_ (Below.mono ‹Below _ _ _› (by first | omega | (simp; done) | (simp; omega)))) | exact Below.refl _ _ | omega | (focus (simp; done)) | (focus (simp; omega)))) hhi) (by omega) HGO.out.1).mono ?_
            rintro e w3 ⟨rfl, hb3⟩
            have hz3 := hb3.size
            have hb23 : Below wr.heap.size wr w3 := hb2.trans (hb3.mono (by omega))
            have HB3 := hide (HB.out.below hb23 pl)
            have HR3 := hide (HR.out.below hb23 rl)
            have hbw3 : Below w.heap.size w w3 := hb.trans (hb23.mono (by omega))
            clear p0 p1 pf pl r0 r1 rf rl
            cases e1 : opB F n y.1 y.2 with
            | false =>
              have HX : Hid (fwOk F n r c s = false) := fw_no (fwA_wall HA.out HL.out (by rw [HY.out]; exact e1)) (show k + 1 ≤ s.size by omega)
              obtain ⟨r0, r1, rf, rl⟩ := HR3.out
              go_wp2_with fail
              refine bodyPost_ret (v := .tuple #[.agg #[.int .i64 0, .int .i64 0], .bool false]) (by simp [results, Tryd.results37, go_sem, *]) rfl (fw_nil HX.out ?_)
              exact (hbw3.setCell (by simp) _).setCell (by simp) _
            | true =>
              have HA2 : Hid (fwA F n (r, c) s (k + 1) = some y) := by
                have h := fwA_step HA.out HL.out (by rw [HY.out]; exact e1)
                rw [HY.out] at h
                exact h
              obtain ⟨p0, p1, pf, pl⟩ := HB3.out
              go_wp2_with fail
              refine (seStep_p p y d _ HY.out hd (by omega) (by omega) (by omega) (by omega)).mono ?_
              rintro e w4 ⟨rfl, hb4⟩
              have hz4 := hb4.size
              have HB4 := hide (HB3.out.below hb4 pl)
              have HR4 := hide (HR3.out.below hb4 (by have := HR3.out.lt; exact this))
              have hbw4 : Below w.heap.size w w4 := hbw3.trans (hb4.mono (by omega))
              clear p0 p1 pf pl
              obtain ⟨p0, p1, pf, pl⟩ := HB4.out
              go_wp2_with fail
              go_roundg (s.size - k)
              case measure => omega
              case rel => exact ⟨k + 1, y, by omega, by omega, by go_num, HA2.out, HB4.out.set _ _, HR4.out.other (by omega) _ _, (hbw4.setCell (by simp) _).setCell (by simp) _⟩
        · obtain rfl : k = s.size := by omega
          go_wp2_with fail
          refine bodyPost_ret (v := .tuple #[.agg #[.int .i64 p.1, .int .i64 p.2], .bool true]) (by simp [results, Tryd.results37, go_sem, *]) rfl (fw_at HS.out hs2 HA.out ?_)
          exact (hb.setCell (by simp) _).setCell (by simp) _
    · have d2 : decide ((s.size : Int) > 200) = true := decide_eq_true (by omega)
      have HX : Hid (fwOk F n r c s = false) := by show _ = _; rw [fwOk, decide_eq_false hs2]; simp
      obtain ⟨r0, r1, rf, rl⟩ := R1
      clear B1
      go_wp2_with fail
      refine bodyPost_ret (v := .tuple #[.agg #[.int .i64 0, .int .i64 0], .bool false]) (by simp [results, Tryd.results37, go_sem, *]) rfl (fw_nil HX.out ?_)
      exact (hb01.setCell (by simp) _).setCell (by simp) _
set_option maxRecDepth 100000 in
set_option maxHeartbeats 3200000 in
theorem FollowWay_impl (F : Nat → ByteArray) (n : Nat) (r c : Int) (s : ByteArray) (lo hi : Nat) (v : Value) (w : World) (hv : Sl w lo hi 1 v n (sC F)) (hhi : hi ≤ w.heap.size) (hf : ffits F n) (hms : s.size ≤ maxLen) :
    Calls Tryd.prog 36 #[v, .agg #[.int .i64 r, .int .i64 c], .string s] w (FwRes F n r c s w) := by
  obtain ⟨A, capF, rfl, hcap, hA⟩ := hv.open_
  unfold maxLen at hms
  clear hA
  go_enter Tryd.func36, Tryd.ntmps36
  go_wp2_with fail
  refine (isFloor_any F n lo hi _ _ (hv.below (B := w.heap.size) (by repeat (first | (with_reducible exact Below.refl _ _) | (with_reducible refine below_ov ?_ ?_) | (with_reducible refine Below.setCell ?_ ?_ _) | (with_reducible refine Below.alloc ?_ ?_ _) | (with_reducible refine Below.drew ?_) | (with_reducible refine below_drewN ?_ _) | (refine Below.trans ?_ (Below.mono ‹Below _ _ _› (by first | omega | (simp; done) | (simp; omega)))) | exact Below.refl _ _ | omega | (focus (simp; done)) | (focus (simp; omega)))) hhi) (by simp; omega) hf).mono ?_
  rintro e w0 ⟨rfl, hb0⟩
  have hz0 := hb0.size
  simp at hz0
  have hb00 : Below w.heap.size w w0 := (by repeat (first | (with_reducible exact Below.refl _ _) | (with_reducible refine below_ov ?_ ?_) | (with_reducible refine Below.setCell ?_ ?_ _) | (with_reducible refine Below.alloc ?_ ?_ _) | (with_reducible refine Below.drew ?_) | (with_reducible refine below_drewN ?_ _) | (refine Below.trans ?_ (Below.mono ‹Below _ _ _› (by first | omega | (simp; done) | (simp; omega)))) | exact Below.refl _ _ | omega | (focus (simp; done)) | (focus (simp; omega))))
  have B0 : Bx2 w0 w.heap.size r c := ((Bx2.new w r c).below ((Below.refl _ _).alloc (Nat.le_refl _) _) (by simp)).below hb0 (by simp; omega)
  have R0 : Bx2 w0 (w.heap.size + 1) 0 0 := by
    have h := Bx2.new (w.alloc (.cells #[.int .i64 r, .int .i64 c] 38)) 0 0
    simp only [World.size_alloc] at h
    exact h.below hb0 (by simp)
  cases e0 : flB F n with
  | false =>
    have HX : Hid (fwOk F n r c s = false) := by show _ = _; rw [fwOk, sfOk, e0]; rfl
    obtain ⟨r0, r1, rf, rl⟩ := R0
    clear B0
    go_wp2_with fail
    refine bodyPost_ret (v := .tuple #[.agg #[.int .i64 0, .int .i64 0], .bool false]) (by simp [results, Tryd.results36, go_sem, *]) rfl (fw_nil HX.out ?_)
    exact (hb00.setCell (by simp) _).setCell (by simp) _
  | true =>
  have HG := hide e0
  have HB0 := hide B0
  have HR0 := hide R0
  obtain ⟨p0, p1, pf, pl⟩ := B0
  clear e0 R0
  go_wp2_with fail
  refine (isOpen_any F n r c lo hi _ _ (hv.below (B := w.heap.size) hb00 hhi) (by omega) HG.out).mono ?_
  rintro e w1 ⟨rfl, hb1⟩
  have hz1 := hb1.size
  have hb01 : Below w.heap.size w w1 := hb00.trans (hb1.mono (by omega))
  have B1 := HB0.out.below hb1 pl
  have R1 := HR0.out.below hb1 HR0.out.lt
  clear p0 p1 pf pl
  cases e1 : opB F n r c with
  | false =>
    have HX : Hid (fwOk F n r c s = false) := by show _ = _; rw [fwOk, sfOk, e1]; simp
    obtain ⟨r0, r1, rf, rl⟩ := R1
    clear B1
    go_wp2_with fail
    refine bodyPost_ret (v := .tuple #[.agg #[.int .i64 0, .int .i64 0], .bool false]) (by simp [results, Tryd.results36, go_sem, *]) rfl (fw_nil HX.out ?_)
    exact (hb01.setCell (by simp) _).setCell (by simp) _
  | true =>
    have HS : Hid (sfOk F n r c = true) := by show _ = _; rw [sfOk, HG.out, e1]; rfl
    have HO : Hid (opP F n (r, c) = true) := e1
    clear e1
    by_cases hs2 : s.size ≤ 200
    · have d2 : decide ((s.size : Int) > 200) = false := decide_eq_false (by omega)
      have HB1 := hide B1
      have HR1 := hide R1
      clear B1 R1
      go_wp2_with fail
      go_loopg [26] (s.size + 1) (fun gn iv wr => ∃ (k : Nat) (p : Int × Int), k ≤ s.size ∧ s.size - k < gn ∧ iv = .int .i64 k ∧ Hid (fwA F n (r, c) s k = some p) ∧ Hid (Bx2 wr w.heap.size p.1 p.2) ∧ Hid (Bx2 wr (w.heap.size + 1) 0 0) ∧ Below w.heap.size w wr)
      case atStart => exact ⟨0, (r, c), by omega, by omega, rfl, rfl, HB1, HR1, hb01⟩
      case round =>
        clear HB1 HR1
        obtain ⟨k, p, hk, hgk, rfl, HA, HB, HR, hb⟩ := hrel
        have hzr := hb.size
        obtain ⟨p0, p1, pf, pl⟩ := HB.out
        obtain ⟨r0, r1, rf, rl⟩ := HR.out
        by_cases hkn : k < s.size
        · have hby := byteAt_eq hkn
          have HOP := hide (fwA_open HO.out HA.out)
          rcases ltr_cases (s[k].toNat : Int) with ⟨hL, -⟩ | ⟨d, hd, hbd, hL⟩
          · rw [hby] at hL
            have HX : Hid (fwOk F n r c s = false) := fw_no (fwA_bad HA.out hL) (show k + 1 ≤ s.size by omega)
            clear hby
            go_wp2_with (go_at_call 83; refine (Contains_d s k hkn _).mono ?_; rintro e w' ⟨rfl, rfl⟩)
            refine bodyPost_ret (v := .tuple #[.agg #[.int .i64 0, .int .i64 0], .bool false]) (by simp [results, Tryd.results36, go_sem, *]) rfl (fw_nil HX.out ?_)
            exact (hb.setCell (by simp) _).setCell (by simp) _
          · rw [hby] at hL
            have HL := hide hL
            have d0 : decide (0 ≤ ltr (byteAt s k)) = true := by rw [hL]; exact decide_eq_true (by omega)
            clear hby hL
            obtain ⟨y, hy⟩ : ∃ y, stp p d = y := ⟨_, rfl⟩
            have HY := hide hy
            obtain ⟨b1, b2, b3, b4⟩ := opP_bd HOP.out
            obtain ⟨g1, g2, g3, g4, _, _⟩ := flB_facts HG.out
            have hzd : wr.drew.heap.size = wr.heap.size := rfl
            have HBD := hide hbd
            clear hy hbd
            go_wp2_with (go_at_call 83; refine (Contains_d s k hkn _).mono ?_; rintro e w' ⟨rfl, rfl⟩)
            refine wp_region_mix [(1, true), (2, true), (3, true), (0, false), (4, false), (5, false)] (fun _ => True) (by kernel_rfl) (by kernel_rfl) (by kernel_rfl) (by kernel_rfl) trivial ?_
            refine mix_look _ _ rfl rfl (fun w' _ => BigFrame.run_move _ rfl w') ?_
            go_simp
            refine mix_look _ _ rfl rfl (fun w' _ => BigFrame.run_move _ rfl w') ?_
            go_simp
            refine mix_look _ (.int .u8 (s[k].toNat : Int)) rfl rfl (fun w' hw' => (by go_simp)) ?_
            go_simp
            refine mix_value _ (.agg #[.int .i64 p.1, .int .i64 p.2]) wr.drew rfl rfl (by go_simp) trivial ?_
            go_simp
            refine mix_call _ 75 #[.agg #[.int .i64 p.1, .int .i64 p.2], .int .u8 (dL d)] rfl rfl (by rw [← HBD.out]; go_simp) ?_
            refine (stepTo_p p y d _ HY.out hd (by omega) (by omega) (by omega) (by omega)).mono ?_
            rintro e w2 ⟨rfl, hb2⟩
            have hz2 := hb2.size
            refine ⟨_, rfl, trivial, ?_⟩
            go_simp
            have HB2 := hide ((HB.out.keep (w' := wr.drew) rfl pl).below hb2 pl)
            have HR2 := hide ((HR.out.keep (w' := wr.drew) rfl rl).below hb2 rl)
            have hb22 : Below w.heap.size w w2 := (Below.drew hb).trans (hb2.mono (by omega))
            clear p0 p1 pf pl r0 r1 rf rl
            obtain ⟨p0, p1, pf, pl⟩ := HB2.out
            obtain ⟨W3, hW3⟩ : ∃ W3, W3 = (w2.setCell ⟨w.heap.size, 0, none⟩ (.int .i64 y.1)).setCell ⟨w.heap.size, 1, none⟩ (.int .i64 y.2) := ⟨_, rfl⟩
            have HW3 := hide hW3
            have HB3 : Hid (Bx2 W3 w.heap.size y.1 y.2) := by show Bx2 _ _ _ _; rw [hW3]; exact HB2.out.set _ _
            have HR3 : Hid (Bx2 W3 (w.heap.size + 1) 0 0) := by show Bx2 _ _ _ _; rw [hW3]; exact HR2.out.other (by omega) _ _
            have hb33 : Below w.heap.size w W3 := by rw [hW3]; exact (hb22.setCell (by simp) _).setCell (by simp) _
            have hz33 := hb33.size
            clear hW3
            refine mix_store _ W3 rfl rfl (by rw [HW3.out]; go_simp) trivial ?_
            go_simp
            refine wpMix_nil ?_
            clear p0 p1 pf pl
            obtain ⟨p0, p1, pf, pl⟩ := HB3.out
            go_wp2_with fail
            refine (isOpen_any F n y.1 y.2 lo hi _ _ (hv.below (B := w.heap.size) hb33 hhi) (by omega) HG.out).mono ?_
            rintro e w3 ⟨rfl, hb3⟩
            have hz3 := hb3.size
            have HB4 := hide (HB3.out.below hb3 pl)
            have HR4 := hide (HR3.out.below hb3 HR3.out.lt)
            have hbw4 : Below w.heap.size w w3 := hb33.trans (hb3.mono (by omega))
            clear p0 p1 pf pl
            cases e1 : opB F n y.1 y.2 with
            | false =>
              have HX : Hid (fwOk F n r c s = false) := fw_no (fwA_wall HA.out HL.out (by rw [HY.out]; exact e1)) (show k + 1 ≤ s.size by omega)
              obtain ⟨r0, r1, rf, rl⟩ := HR4.out
              go_wp2_with fail
              refine bodyPost_ret (v := .tuple #[.agg #[.int .i64 0, .int .i64 0], .bool false]) (by simp [results, Tryd.results36, go_sem, *]) rfl (fw_nil HX.out ?_)
              exact (hbw4.setCell (by simp) _).setCell (by simp) _
            | true =>
              have HA2 : Hid (fwA F n (r, c) s (k + 1) = some y) := by
                have h := fwA_step HA.out HL.out (by rw [HY.out]; exact e1)
                rw [HY.out] at h
                exact h
              go_wp2_with fail
              go_roundg (s.size - k)
              case measure => omega
              case rel => exact ⟨k + 1, y, by omega, by omega, by go_num, HA2.out, HB4, HR4, hbw4⟩
        · obtain rfl : k = s.size := by omega
          go_wp2_with fail
          refine bodyPost_ret (v := .tuple #[.agg #[.int .i64 p.1, .int .i64 p.2], .bool true]) (by simp [results, Tryd.results36, go_sem, *]) rfl (fw_at HS.out hs2 HA.out ?_)
          exact (hb.setCell (by simp) _).setCell (by simp) _
    · have d2 : decide ((s.size : Int) > 200) = true := decide_eq_true (by omega)
      have HX : Hid (fwOk F n r c s = false) := by show _ = _; rw [fwOk, decide_eq_false hs2]; simp
      obtain ⟨r0, r1, rf, rl⟩ := R1
      clear B1
      go_wp2_with fail
      refine bodyPost_ret (v := .tuple #[.agg #[.int .i64 0, .int .i64 0], .bool false]) (by simp [results, Tryd.results36, go_sem, *]) rfl (fw_nil HX.out ?_)
      exact (hb01.setCell (by simp) _).setCell (by simp) _

end Go.Proofs.YtpckhpkbdanjoaaDoor
