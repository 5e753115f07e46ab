/-
  Texts of this proof, one behind the other (part 9).
-/
import Derived.Test.YtpckhpkbdanjoaaDoorQ8
/-
  Walks: FollowWay: the program's and the reference's.-/
namespace Go.Proofs.YtpckhpkbdanjoaaDoor
set_option linter.unusedVariables false
set_option linter.unusedSimpArgs false
open Go.RowKit Go.Shelf

/-- What the call hands back. -/
def FwRes (F : Nat → ByteArray) (n : Nat) (r c : Int) (s : ByteArray) (w : World) (e : Ending) (w' : World) : Prop := e = .returned (.tuple #[.agg #[.int .i64 (fwP F n r c s).1, .int .i64 (fwP F n r c s).2], .bool (fwOk F n r c s)]) ∧ Below w.heap.size w w'
theorem fw_nil {F : Nat → ByteArray} {n : Nat} {r c : Int} {s : ByteArray} {w w' : World} (h : fwOk F n r c s = false) (hb : Below w.heap.size w w') : FwRes F n r c s w (.returned (.tuple #[.agg #[.int .i64 0, .int .i64 0], .bool false])) w' :=
  ⟨by rw [fwP, h]; rfl, hb⟩
theorem fw_at {F : Nat → ByteArray} {n : Nat} {r c : Int} {s : ByteArray} {w w' : World} {p : Int × Int} (h1 : sfOk F n r c = true) (h2 : s.size ≤ 200) (h : fwA F n (r, c) s s.size = some p) (hb : Below w.heap.size w w') : FwRes F n r c s w (.returned (.tuple #[.agg #[.int .i64 p.1, .int .i64 p.2], .bool true])) w' := by
  have h3 : fwOk F n r c s = true := by rw [fwOk, h1, h, decide_eq_true h2]; rfl
  exact ⟨by rw [fwP, if_pos h3, h, h3]; rfl, hb⟩
set_option maxRecDepth 100000 in
set_option maxHeartbeats 3200000 in
theorem FollowWay_spec (F : Nat → ByteArray) (n : Nat) (r c : Int) (s : ByteArray) (lo hi : Nat) (v : Value) (w : World) (hv : Sl w lo hi 1 v n (sC F)) (hhi : hi ≤ w.heap.size) (hf : ffits F n) (hms : s.size ≤ maxLen) :
    Calls Tryd.prog 37 #[v, .agg #[.int .i64 r, .int .i64 c], .string s] w (FwRes F n r c s w) := by
  obtain ⟨A, capF, rfl, hcap, hA⟩ := hv.open_
  unfold maxLen at hms
  clear hA
  go_enter Tryd.func37, Tryd.ntmps37
  go_wp2_with fail
  refine (seAsked_any F n r c lo hi _ _ (hv.below (B := w.heap.size) (by repeat (first | (with_reducible exact Below.refl _ _) | (with_reducible refine below_ov ?_ ?_) | (with_reducible refine Below.setCell ?_ ?_ _) | (with_reducible refine Below.alloc ?_ ?_ _) | (with_reducible refine Below.drew ?_) | (with_reducible refine below_drewN ?_ _) | (refine Below.trans ?_ (Below.mono ‹Below _ _ _› (by first | omega | (simp; done) | (simp; omega)))) | exact Below.refl _ _ | omega | (focus (simp; done)) | (focus (simp; omega)))) hhi) (by simp; omega) hf).mono ?_
  rintro e w1 ⟨rfl, hb1⟩
  have hz1 := hb1.size
  simp at hz1
  have hb01 : Below w.heap.size w w1 := (by repeat (first | (with_reducible exact Below.refl _ _) | (with_reducible refine below_ov ?_ ?_) | (with_reducible refine Below.setCell ?_ ?_ _) | (with_reducible refine Below.alloc ?_ ?_ _) | (with_reducible refine Below.drew ?_) | (with_reducible refine below_drewN ?_ _) | (refine Below.trans ?_ (Below.mono ‹Below _ _ _› (by first | omega | (simp; done) | (simp; omega)))) | exact Below.refl _ _ | omega | (focus (simp; done)) | (focus (simp; omega))))
  have B1 : Bx2 w1 w.heap.size r c := ((Bx2.new w r c).below ((Below.refl _ _).alloc (Nat.le_refl _) _) (by simp)).below hb1 (by simp; omega)
  have R1 : Bx2 w1 (w.heap.size + 1) 0 0 := by
    have h := Bx2.new (w.alloc (.cells #[.int .i64 r, .int .i64 c] 38)) 0 0
    simp only [World.size_alloc] at h
    exact h.below hb1 (by simp)
  cases e1 : sfOk F n r c with
  | false =>
    have HX : Hid (fwOk F n r c s = false) := by show _ = _; rw [fwOk, e1]; rfl
    obtain ⟨r0, r1, rf, rl⟩ := R1
    clear B1
    go_wp2_with fail
    refine bodyPost_ret (v := .tuple #[.agg #[.int .i64 0, .int .i64 0], .bool false]) (by simp [results, Tryd.results37, go_sem, *]) rfl (fw_nil HX.out ?_)
    exact (hb01.setCell (by simp) _).setCell (by simp) _
  | true =>
    have HS := hide e1
    have HGO : Hid (flB F n = true ∧ opB F n r c = true) := by
      show _ ∧ _
      simpa only [sfOk, Bool.and_eq_true] using e1
    clear e1
    by_cases hs2 : s.size ≤ 200
    · have d2 : decide ((s.size : Int) > 200) = false := decide_eq_false (by omega)
      have HB1 := hide B1
      have HR1 := hide R1
      clear B1 R1
      go_wp2_with fail
      go_loopg [8, 9] (s.size + 1) (fun gn iv dv wr => ∃ (k : Nat) (p : Int × Int), k ≤ s.size ∧ s.size - k < gn ∧ iv = .int .i64 k ∧ Hid (fwA F n (r, c) s k = some p) ∧ Hid (Bx2 wr w.heap.size p.1 p.2) ∧ Hid (Bx2 wr (w.heap.size + 1) 0 0) ∧ Below w.heap.size w wr)
      case atStart => exact ⟨0, (r, c), by omega, by omega, rfl, rfl, HB1, HR1, hb01⟩
      case round =>
        clear HB1 HR1
        obtain ⟨k, p, hk, hgk, rfl, HA, HB, HR, hb⟩ := hrel
        have hzr := hb.size
        obtain ⟨p0, p1, pf, pl⟩ := HB.out
        obtain ⟨r0, r1, rf, rl⟩ := HR.out
        by_cases hkn : k < s.size
        · have hby := byteAt_eq hkn
          have HOP := hide (fwA_open (show opP F n (r, c) = true from HGO.out.2) HA.out)
          rcases ltr_cases (s[k].toNat : Int) with ⟨hL, -⟩ | ⟨d, hd, -, hL⟩
          · have HX : Hid (fwOk F n r c s = false) := fw_no (fwA_bad HA.out (by rw [← hby]; exact hL)) (show k + 1 ≤ s.size by omega)
            clear hby
            go_wp2_with (go_at_call 84; refine (seLetter_any _ _).mono ?_; rintro e w' ⟨rfl, rfl⟩)
            refine bodyPost_ret (v := .tuple #[.agg #[.int .i64 0, .int .i64 0], .bool false]) (by simp [results, Tryd.results37, go_sem, *]) rfl (fw_nil HX.out ?_)
            exact (hb.setCell (by simp) _).setCell (by simp) _
          · have HL : Hid (ltr (byteAt s k) = d) := by show _ = _; rw [← hby]; exact hL
            clear hby
            obtain ⟨y, hy⟩ : ∃ y, stp p d = y := ⟨_, rfl⟩
            have HY := hide hy
            obtain ⟨b1, b2, b3, b4⟩ := opP_bd HOP.out
            obtain ⟨g1, g2, g3, g4, _, _⟩ := flB_facts HGO.out.1
            clear hy
            go_wp2_with (go_at_call 84; refine (seLetter_any _ _).mono ?_; rintro e w' ⟨rfl, rfl⟩)
            refine (seStep_p p y d _ HY.out hd (by omega) (by omega) (by omega) (by omega)).mono ?_
            rintro e w2 ⟨rfl, hb2⟩
            have hz2 := hb2.size
            go_wp2_with fail
            refine (seOpen_any F n y.1 y.2 lo hi _ _ (hv.below (B := w.heap.size) (by repeat (first | (with_reducible exact Below.refl _ _) | (with_reducible refine below_ov ?_ ?_) | (with_reducible refine Below.setCell ?_ ?_ _) | (with_reducible refine Below.alloc ?_ ?_ _) | (with_reducible refine Below.drew ?_) | (with_reducible refine below_drewN ?_ _) | (refine Below.trans ?_ (Below.mono ‹Below _ _ _› (by first | omega | (simp; done) | (simp; omega)))) | exact Below.refl _ _ | omega | (focus (simp; done)) | (focus (simp; omega)))) hhi) (by omega) HGO.out.1).mono ?_
            rintro e w3 ⟨rfl, hb3⟩
            have hz3 := hb3.size
            have hb23 : Below wr.heap.size wr w3 := hb2.trans (hb3.mono (by omega))
            have HB3 := hide (HB.out.below hb23 pl)
            have HR3 := hide (HR.out.below hb23 rl)
            have hbw3 : Below w.heap.size w w3 := hb.trans (hb23.mono (by omega))
            clear p0 p1 pf pl r0 r1 rf rl
            cases e1 : opB F n y.1 y.2 with
            | false =>
              have HX : Hid (fwOk F n r c s = false) := fw_no (fwA_wall HA.out HL.out (by rw [HY.out]; exact e1)) (show k + 1 ≤ s.size by omega)
              obtain ⟨r0, r1, rf, rl⟩ := HR3.out
              go_wp2_with fail
              refine bodyPost_ret (v := .tuple #[.agg #[.int .i64 0, .int .i64 0], .bool false]) (by simp [results, Tryd.results37, go_sem, *]) rfl (fw_nil HX.out ?_)
              exact (hbw3.setCell (by simp) _).setCell (by simp) _
            | true =>
              have HA2 : Hid (fwA F n (r, c) s (k + 1) = some y) := by
                have h := fwA_step HA.out HL.out (by rw [HY.out]; exact e1)
                rw [HY.out] at h
                exact h
              obtain ⟨p0, p1, pf, pl⟩ := HB3.out
              go_wp2_with fail
              refine (seStep_p p y d _ HY.out hd (by omega) (by omega) (by omega) (by omega)).mono ?_
              rintro e w4 ⟨rfl, hb4⟩
              have hz4 := hb4.size
              have HB4 := hide (HB3.out.below hb4 pl)
              have HR4 := hide (HR3.out.below hb4 (by have := HR3.out.lt; exact this))
              have hbw4 : Below w.heap.size w w4 := hbw3.trans (hb4.mono (by omega))
              clear p0 p1 pf pl
              obtain ⟨p0, p1, pf, pl⟩ := HB4.out
              go_wp2_with fail
              go_roundg (s.size - k)
              case measure => omega
              case rel => exact ⟨k + 1, y, by omega, by omega, by go_num, HA2.out, HB4.out.set _ _, HR4.out.other (by omega) _ _, (hbw4.setCell (by simp) _).setCell (by simp) _⟩
        · obtain rfl : k = s.size := by omega
          go_wp2_with fail
          refine bodyPost_ret (v := .tuple #[.agg #[.int .i64 p.1, .int .i64 p.2], .bool true]) (by simp [results, Tryd.results37, go_sem, *]) rfl (fw_at HS.out hs2 HA.out ?_)
          exact (hb.setCell (by simp) _).setCell (by simp) _
    · have d2 : decide ((s.size : Int) > 200) = true := decide_eq_true (by omega)
      have HX : Hid (fwOk F n r c s = false) := by show _ = _; rw [fwOk, decide_eq_false hs2]; simp
      obtain ⟨r0, r1, rf, rl⟩ := R1
      clear B1
      go_wp2_with fail
      refine bodyPost_ret (v := .tuple #[.agg #[.int .i64 0, .int .i64 0], .bool false]) (by simp [results, Tryd.results37, go_sem, *]) rfl (fw_nil HX.out ?_)
      exact (hb01.setCell (by simp) _).setCell (by simp) _
set_option maxRecDepth 100000 in
set_option maxHeartbeats 3200000 in
theorem FollowWay_impl (F : Nat → ByteArray) (n : Nat) (r c : Int) (s : ByteArray) (lo hi : Nat) (v : Value) (w : World) (hv : Sl w lo hi 1 v n (sC F)) (hhi : hi ≤ w.heap.size) (hf : ffits F n) (hms : s.size ≤ maxLen) :
    Calls Tryd.prog 36 #[v, .agg #[.int .i64 r, .int .i64 c], .string s] w (FwRes F n r c s w) := by
  obtain ⟨A, capF, rfl, hcap, hA⟩ := hv.open_
  unfold maxLen at hms
  clear hA
  go_enter Tryd.func36, Tryd.ntmps36
  go_wp2_with fail
  refine (isFloor_any F n lo hi _ _ (hv.below (B := w.heap.size) (by repeat (first | (with_reducible exact Below.refl _ _) | (with_reducible refine below_ov ?_ ?_) | (with_reducible refine Below.setCell ?_ ?_ _) | (with_reducible refine Below.alloc ?_ ?_ _) | (with_reducible refine Below.drew ?_) | (with_reducible refine below_drewN ?_ _) | (refine Below.trans ?_ (Below.mono ‹Below _ _ _› (by first | omega | (simp; done) | (simp; omega)))) | exact Below.refl _ _ | omega | (focus (simp; done)) | (focus (simp; omega)))) hhi) (by simp; omega) hf).mono ?_
  rintro e w0 ⟨rfl, hb0⟩
  have hz0 := hb0.size
  simp at hz0
  have hb00 : Below w.heap.size w w0 := (by repeat (first | (with_reducible exact Below.refl _ _) | (with_reducible refine below_ov ?_ ?_) | (with_reducible refine Below.setCell ?_ ?_ _) | (with_reducible refine Below.alloc ?_ ?_ _) | (with_reducible refine Below.drew ?_) | (with_reducible refine below_drewN ?_ _) | (refine Below.trans ?_ (Below.mono ‹Below _ _ _› (by first | omega | (simp; done) | (simp; omega)))) | exact Below.refl _ _ | omega | (focus (simp; done)) | (focus (simp; omega))))
  have B0 : Bx2 w0 w.heap.size r c := ((Bx2.new w r c).below ((Below.refl _ _).alloc (Nat.le_refl _) _) (by simp)).below hb0 (by simp; omega)
  have R0 : Bx2 w0 (w.heap.size + 1) 0 0 := by
    have h := Bx2.new (w.alloc (.cells #[.int .i64 r, .int .i64 c] 38)) 0 0
    simp only [World.size_alloc] at h
    exact h.below hb0 (by simp)
  cases e0 : flB F n with
  | false =>
    have HX : Hid (fwOk F n r c s = false) := by show _ = _; rw [fwOk, sfOk, e0]; rfl
    obtain ⟨r0, r1, rf, rl⟩ := R0
    clear B0
    go_wp2_with fail
    refine bodyPost_ret (v := .tuple #[.agg #[.int .i64 0, .int .i64 0], .bool false]) (by simp [results, Tryd.results36, go_sem, *]) rfl (fw_nil HX.out ?_)
    exact (hb00.setCell (by simp) _).setCell (by simp) _
  | true =>
  have HG := hide e0
  have HB0 := hide B0
  have HR0 := hide R0
  obtain ⟨p0, p1, pf, pl⟩ := B0
  clear e0 R0
  go_wp2_with fail
  refine (isOpen_any F n r c lo hi _ _ (hv.below (B := w.heap.size) hb00 hhi) (by omega) HG.out).mono ?_
  rintro e w1 ⟨rfl, hb1⟩
  have hz1 := hb1.size
  have hb01 : Below w.heap.size w w1 := hb00.trans (hb1.mono (by omega))
  have B1 := HB0.out.below hb1 pl
  have R1 := HR0.out.below hb1 HR0.out.lt
  clear p0 p1 pf pl
  cases e1 : opB F n r c with
  | false =>
    have HX : Hid (fwOk F n r c s = false) := by show _ = _; rw [fwOk, sfOk, e1]; simp
    obtain ⟨r0, r1, rf, rl⟩ := R1
    clear B1
    go_wp2_with fail
    refine bodyPost_ret (v := .tuple #[.agg #[.int .i64 0, .int .i64 0], .bool false]) (by simp [results, Tryd.results36, go_sem, *]) rfl (fw_nil HX.out ?_)
    exact (hb01.setCell (by simp) _).setCell (by simp) _
  | true =>
    have HS : Hid (sfOk F n r c = true) := by show _ = _; rw [sfOk, HG.out, e1]; rfl
    have HO : Hid (opP F n (r, c) = true) := e1
    clear e1
    by_cases hs2 : s.size ≤ 200
    · have d2 : decide ((s.size : Int) > 200) = false := decide_eq_false (by omega)
      have HB1 := hide B1
      have HR1 := hide R1
      clear B1 R1
      go_wp2_with fail
      go_loopg [26] (s.size + 1) (fun gn iv wr => ∃ (k : Nat) (p : Int × Int), k ≤ s.size ∧ s.size - k < gn ∧ iv = .int .i64 k ∧ Hid (fwA F n (r, c) s k = some p) ∧ Hid (Bx2 wr w.heap.size p.1 p.2) ∧ Hid (Bx2 wr (w.heap.size + 1) 0 0) ∧ Below w.heap.size w wr)
      case atStart => exact ⟨0, (r, c), by omega, by omega, rfl, rfl, HB1, HR1, hb01⟩
      case round =>
        clear HB1 HR1
        obtain ⟨k, p, hk, hgk, rfl, HA, HB, HR, hb⟩ := hrel
        have hzr := hb.size
        obtain ⟨p0, p1, pf, pl⟩ := HB.out
        obtain ⟨r0, r1, rf, rl⟩ := HR.out
        by_cases hkn : k < s.size
        · have hby := byteAt_eq hkn
          have HOP := hide (fwA_open HO.out HA.out)
          rcases ltr_cases (s[k].toNat : Int) with ⟨hL, -⟩ | ⟨d, hd, hbd, hL⟩
          · rw [hby] at hL
            have HX : Hid (fwOk F n r c s = false) := fw_no (fwA_bad HA.out hL) (show k + 1 ≤ s.size by omega)
            clear hby
            go_wp2_with (go_at_call 83; refine (Contains_d s k hkn _).mono ?_; rintro e w' ⟨rfl, rfl⟩)
            refine bodyPost_ret (v := .tuple #[.agg #[.int .i64 0, .int .i64 0], .bool false]) (by simp [results, Tryd.results36, go_sem, *]) rfl (fw_nil HX.out ?_)
            exact (hb.setCell (by simp) _).setCell (by simp) _
          · rw [hby] at hL
            have HL := hide hL
            have d0 : decide (0 ≤ ltr (byteAt s k)) = true := by rw [hL]; exact decide_eq_true (by omega)
            clear hby hL
            obtain ⟨y, hy⟩ : ∃ y, stp p d = y := ⟨_, rfl⟩
            have HY := hide hy
            obtain ⟨b1, b2, b3, b4⟩ := opP_bd HOP.out
            obtain ⟨g1, g2, g3, g4, _, _⟩ := flB_facts HG.out
            have hzd : wr.drew.heap.size = wr.heap.size := rfl
            have HBD := hide hbd
            clear hy hbd
            go_wp2_with (go_at_call 83; refine (Contains_d s k hkn _).mono ?_; rintro e w' ⟨rfl, rfl⟩)
            refine wp_region_mix [(1, true), (2, true), (3, true), (0, false), (4, false), (5, false)] (fun _ => True) (by kernel_rfl) (by kernel_rfl) (by kernel_rfl) (by kernel_rfl) trivial ?_
            refine mix_look _ _ rfl rfl (fun w' _ => BigFrame.run_move _ rfl w') ?_
            go_simp
            refine mix_look _ _ rfl rfl (fun w' _ => BigFrame.run_move _ rfl w') ?_
            go_simp
            refine mix_look _ (.int .u8 (s[k].toNat : Int)) rfl rfl (fun w' hw' => (by go_simp)) ?_
            go_simp
            refine mix_value _ (.agg #[.int .i64 p.1, .int .i64 p.2]) wr.drew rfl rfl (by go_simp) trivial ?_
            go_simp
            refine mix_call _ 75 #[.agg #[.int .i64 p.1, .int .i64 p.2], .int .u8 (dL d)] rfl rfl (by rw [← HBD.out]; go_simp) ?_
            refine (stepTo_p p y d _ HY.out hd (by omega) (by omega) (by omega) (by omega)).mono ?_
            rintro e w2 ⟨rfl, hb2⟩
            have hz2 := hb2.size
            refine ⟨_, rfl, trivial, ?_⟩
            go_simp
            have HB2 := hide ((HB.out.keep (w' := wr.drew) rfl pl).below hb2 pl)
            have HR2 := hide ((HR.out.keep (w' := wr.drew) rfl rl).below hb2 rl)
            have hb22 : Below w.heap.size w w2 := (Below.drew hb).trans (hb2.mono (by omega))
            clear p0 p1 pf pl r0 r1 rf rl
            obtain ⟨p0, p1, pf, pl⟩ := HB2.out
            obtain ⟨W3, hW3⟩ : ∃ W3, W3 = (w2.setCell ⟨w.heap.size, 0, none⟩ (.int .i64 y.1)).setCell ⟨w.heap.size, 1, none⟩ (.int .i64 y.2) := ⟨_, rfl⟩
            have HW3 := hide hW3
            have HB3 : Hid (Bx2 W3 w.heap.size y.1 y.2) := by show Bx2 _ _ _ _; rw [hW3]; exact HB2.out.set _ _
            have HR3 : Hid (Bx2 W3 (w.heap.size + 1) 0 0) := by show Bx2 _ _ _ _; rw [hW3]; exact HR2.out.other (by omega) _ _
            have hb33 : Below w.heap.size w W3 := by rw [hW3]; exact (hb22.setCell (by simp) _).setCell (by simp) _
            have hz33 := hb33.size
            clear hW3
            refine mix_store _ W3 rfl rfl (by rw [HW3.out]; go_simp) trivial ?_
            go_simp
            refine wpMix_nil ?_
            clear p0 p1 pf pl
            obtain ⟨p0, p1, pf, pl⟩ := HB3.out
            go_wp2_with fail
            refine (isOpen_any F n y.1 y.2 lo hi _ _ (hv.below (B := w.heap.size) hb33 hhi) (by omega) HG.out).mono ?_
            rintro e w3 ⟨rfl, hb3⟩
            have hz3 := hb3.size
            have HB4 := hide (HB3.out.below hb3 pl)
            have HR4 := hide (HR3.out.below hb3 HR3.out.lt)
            have hbw4 : Below w.heap.size w w3 := hb33.trans (hb3.mono (by omega))
            clear p0 p1 pf pl
            cases e1 : opB F n y.1 y.2 with
            | false =>
              have HX : Hid (fwOk F n r c s = false) := fw_no (fwA_wall HA.out HL.out (by rw [HY.out]; exact e1)) (show k + 1 ≤ s.size by omega)
              obtain ⟨r0, r1, rf, rl⟩ := HR4.out
              go_wp2_with fail
              refine bodyPost_ret (v := .tuple #[.agg #[.int .i64 0, .int .i64 0], .bool false]) (by simp [results, Tryd.results36, go_sem, *]) rfl (fw_nil HX.out ?_)
              exact (hbw4.setCell (by simp) _).setCell (by simp) _
            | true =>
              have HA2 : Hid (fwA F n (r, c) s (k + 1) = some y) := by
                have h := fwA_step HA.out HL.out (by rw [HY.out]; exact e1)
                rw [HY.out] at h
                exact h
              go_wp2_with fail
              go_roundg (s.size - k)
              case measure => omega
              case rel => exact ⟨k + 1, y, by omega, by omega, by go_num, HA2.out, HB4, HR4, hbw4⟩
        · obtain rfl : k = s.size := by omega
          go_wp2_with fail
          refine bodyPost_ret (v := .tuple #[.agg #[.int .i64 p.1, .int .i64 p.2], .bool true]) (by simp [results, Tryd.results36, go_sem, *]) rfl (fw_at HS.out hs2 HA.out ?_)
          exact (hb.setCell (by simp) _).setCell (by simp) _
    · have d2 : decide ((s.size : Int) > 200) = true := decide_eq_true (by omega)
      have HX : Hid (fwOk F n r c s = false) := by show _ = _; rw [fwOk, decide_eq_false hs2]; simp
      obtain ⟨r0, r1, rf, rl⟩ := R1
      clear B1
      go_wp2_with fail
      refine bodyPost_ret (v := .tuple #[.agg #[.int .i64 0, .int .i64 0], .bool false]) (by simp [results, Tryd.results36, go_sem, *]) rfl (fw_nil HX.out ?_)
      exact (hb01.setCell (by simp) _).setCell (by simp) _

end Go.Proofs.YtpckhpkbdanjoaaDoor

/-
  Walks: the way back: the reference's.-/
namespace Go.Proofs.YtpckhpkbdanjoaaDoor
set_option linter.unusedVariables false
set_option linter.unusedSimpArgs false
open Go.RowKit Go.Shelf Go.Deep

def wbOk (F : Nat → ByteArray) (n : Nat) (r c x y : Int) : Bool := (sfOk F n r c && opB F n x y) && decide (0 ≤ lfF F n (x, y) (r, c))
def wbS (F : Nat → ByteArray) (n : Nat) (r c x y : Int) : ByteArray := if wbOk F n r c x y = true then wbG F n (x, y) (lfF F n (x, y) (r, c)).toNat (r, c) ⟨#[]⟩ else ⟨#[]⟩
/-- What the call hands back. -/
def WbRes (F : Nat → ByteArray) (n : Nat) (r c x y : Int) (w : World) (e : Ending) (w' : World) : Prop := e = .returned (.tuple #[.string (wbS F n r c x y), .bool (wbOk F n r c x y)]) ∧ Below w.heap.size w w'
theorem wb_nil {F : Nat → ByteArray} {n : Nat} {r c x y : Int} {w w' : World} (h : wbOk F n r c x y = false) (hb : Below w.heap.size w w') : WbRes F n r c x y w (.returned (.tuple #[.string ⟨#[]⟩, .bool false])) w' :=
  ⟨by rw [wbS, h]; rfl, hb⟩
theorem wb_at {F : Nat → ByteArray} {n K : Nat} {r c x y : Int} {s : ByteArray} {w w' : World} (h : (sfOk F n r c && opB F n x y) = true) (hK : lfF F n (x, y) (r, c) = K) (hs : s = wbG F n (x, y) K (r, c) ⟨#[]⟩) (hb : Below w.heap.size w w') : WbRes F n r c x y w (.returned (.tuple #[.string s, .bool true])) w' := by
  have h1 : wbOk F n r c x y = true := by rw [wbOk, h, hK, decide_eq_true (Int.natCast_nonneg K)]; rfl
  exact ⟨by rw [wbS, if_pos h1, hK, hs, h1]; rfl, hb⟩
theorem wb_no {F : Nat → ByteArray} {n : Nat} {r c x y : Int} (h : lfF F n (x, y) (r, c) < 0) : wbOk F n r c x y = false := by
  rw [wbOk, decide_eq_false (by omega)]
  simp
/-- Memory while the way is sought: the numbers in block g, the place in the first box. -/
structure WMem (w0 w : World) (g N co : Nat) (o : Nat → Int) (p : Int × Int) : Prop where
  out : OwnL w g (g + 1) 3 1 (.slice (some ⟨g, 0, none⟩) N co) N N (fun i => .int .i64 (o i))
  box : Bx2 w w0.heap.size p.1 p.2
  gl : w0.heap.size < g
  gs : g < w.heap.size
  bel : Below w0.heap.size w0 w
section
variable {w0 w w' : World} {g N co : Nat} {o : Nat → Int} {p : Int × Int}
theorem WMem.keep (h : WMem w0 w g N co o p) (h1 : w'.heap[g]? = w.heap[g]?) (h2 : w'.heap[w0.heap.size]? = w.heap[w0.heap.size]?) (hs : w.heap.size ≤ w'.heap.size) (hb : Below w0.heap.size w0 w') : WMem w0 w' g N co o p :=
  ⟨h.out.keep1 h1, h.box.keep h2 (Nat.lt_of_lt_of_le h.box.lt hs), h.gl, Nat.lt_of_lt_of_le h.gs hs, hb⟩
theorem WMem.below (h : WMem w0 w g N co o p) (hb : Below w.heap.size w w') : WMem w0 w' g N co o p :=
  h.keep (hb.block g h.gs) (hb.block _ h.box.lt) hb.size (h.bel.trans (hb.mono h.bel.size))
theorem WMem.num (h : WMem w0 w g N co o p) {i : Nat} (hi : i < N) : w.cell? ⟨g, i, none⟩ = some (.int .i64 (o i)) :=
  (h.out.cell (by omega) (o := i) (by omega)).2.2 hi
theorem WMem.move (h : WMem w0 w g N co o p) (u v : Int) : WMem w0 ((w.setCell ⟨w0.heap.size, 0, none⟩ (.int .i64 u)).setCell ⟨w0.heap.size, 1, none⟩ (.int .i64 v)) g N co o (u, v) :=
  ⟨h.out.keep1 ((blk_setCell_other _ _ _ _ (by have := h.gl; show g ≠ w0.heap.size; omega)).trans (blk_setCell_other _ _ _ _ (by have := h.gl; show g ≠ w0.heap.size; omega))), h.box.set u v, h.gl, by simp [World.setCell]; exact h.gs, (h.bel.setCell (Nat.le_refl _) _).setCell (Nat.le_refl _) _⟩
theorem mix_skipF {P : Program} {ops : Array Oper} {C : World → Prop} {Q : Act → World → Prop} {k : Nat} {r : List (Nat × Bool)} {a : Act} {w : World} (o : Oper) (hk : ops[k]? = some o) (hw : Region.wanted o (yielded ops a.tmps) = false) (hC : C w)
    (h : wpMix P ops C Q r (a.put o.dst undef) w) : wpMix P ops C Q ((k, false) :: r) a w := by
  show eOp P ops k _ a w
  unfold eOp
  simp only [hk, hw]
  exact ⟨hC, h⟩
theorem four_at {b j : Nat} (h : w.heap[b]? = some (.cells #[.int .i64 1, .int .i64 0, .int .i64 2, .int .i64 3] 3 (0, 0))) (hj : j < 4) : w.cell? ⟨b, j, none⟩ = some (.int .i64 (ordD j : Nat)) := by
  have h4 : j = 0 ∨ j = 1 ∨ j = 2 ∨ j = 3 := by omega
  rcases h4 with rfl | rfl | rfl | rfl <;> simp [World.cell?, h, ordD]
end
theorem nesw_one {d : Nat} (h : d < 4) : (⟨#[110, 101, 115, 119]⟩ : ByteArray).extract d (d + 1) = ltrB d := by
  have h4 : d = 0 ∨ d = 1 ∨ d = 2 ∨ d = 3 := by omega
  rcases h4 with rfl | rfl | rfl | rfl <;> rfl
set_option maxRecDepth 100000 in
set_option maxHeartbeats 3200000 in
theorem seWay_any (F : Nat → ByteArray) (n : Nat) (r c x y : Int) (lo hi : Nat) (v : Value) (w : World) (hv : Sl w lo hi 1 v n (sC F)) (hhi : hi ≤ w.heap.size) (hs1 : sfOk F n r c = true) (hs2 : opB F n x y = true) :
    Calls Tryd.prog 76 #[v, .agg #[.int .i64 r, .int .i64 c], .agg #[.int .i64 x, .int .i64 y]] w (WbRes F n r c x y w) := by
  obtain ⟨A, capF, rfl, hcap, hA⟩ := hv.open_
  clear hA
  have HOK : Hid ((sfOk F n r c && opB F n x y) = true) := by show _ = _; rw [hs1, hs2]; rfl
  have HGO : Hid (flB F n = true ∧ opB F n r c = true) := by
    show _ ∧ _
    simpa only [sfOk, Bool.and_eq_true] using hs1
  have HG : Hid (flB F n = true) := HGO.out.1
  have HOA : Hid (opP F n (r, c) = true) := HGO.out.2
  have HOB : Hid (opP F n (x, y) = true) := hs2
  clear hs1 hs2 HGO
  have har := fl_area HG.out
  go_enter Tryd.func76, Tryd.ntmps76
  have B0 : Bx2 (w.alloc (.cells #[.int .i64 r, .int .i64 c] 38)) w.heap.size r c := Bx2.new w r c
  go_wp2_with fail
  refine (seSteps_any F n x y lo hi _ _ (hv.below (B := w.heap.size) (by repeat (first | (with_reducible exact Below.refl _ _) | (with_reducible refine below_ov ?_ ?_) | (with_reducible refine Below.setCell ?_ ?_ _) | (with_reducible refine Below.alloc ?_ ?_ _) | (with_reducible refine Below.drew ?_) | (with_reducible refine below_drewN ?_ _) | (refine Below.trans ?_ (Below.mono ‹Below _ _ _› (by first | omega | (simp; done) | (simp; omega)))) | exact Below.refl _ _ | omega | (focus (simp; done)) | (focus (simp; omega)))) hhi) (by simp; omega) HG.out HOB.out).mono ?_
  rintro e w1 ⟨g, co, rfl, ho, hg1, hg2, hb1⟩
  have hz1 := hb1.size
  simp at hz1 hg1
  have hb01 : Below w.heap.size w w1 := (by repeat (first | (with_reducible exact Below.refl _ _) | (with_reducible refine below_ov ?_ ?_) | (with_reducible refine Below.setCell ?_ ?_ _) | (with_reducible refine Below.alloc ?_ ?_ _) | (with_reducible refine Below.drew ?_) | (with_reducible refine below_drewN ?_ _) | (refine Below.trans ?_ (Below.mono ‹Below _ _ _› (by first | omega | (simp; done) | (simp; omega)))) | exact Below.refl _ _ | omega | (focus (simp; done)) | (focus (simp; omega))))
  have hN : n * (F 0).size ≤ 144 := har.2
  obtain ⟨N, HN⟩ : ∃ N, N = n * (F 0).size := ⟨_, rfl⟩
  rw [← HN] at ho hN
  rw [← HN]
  have HNN := hide HN
  clear HN har
  have M1 : Hid (WMem w w1 g N co (stF F n (x, y)) (r, c)) :=
    ⟨ho, (B0.below ((Below.refl _ _).alloc (Nat.le_refl _) _) (by simp)).below hb1 (by simp; omega), by omega, hg2, hb01⟩
  clear ho B0
  have HIX : Hid (∀ p, opP F n p = true → ixF F p < N) := fun p hp => by rw [HNN.out]; exact ix_lt hp
  obtain ⟨p0, p1, pf, pl⟩ := M1.out.box
  go_wp2_with fail
  refine (seIndex_any F n r c lo hi _ _ (hv.below (B := w.heap.size) hb01 hhi) (by omega) HG.out HOA.out).mono ?_
  rintro e w2 ⟨rfl, hb2⟩
  have hz2 := hb2.size
  have M2 := hide (M1.out.below hb2)
  clear p0 p1 pf pl
  have hlf := lf_bd (F := F) (n := n) HOB.out (r, c)
  rw [← HNN.out] at hlf
  have hix := HIX.out _ HOA.out
  have hcl : w2.cell? ⟨g, ixF F (r, c), none⟩ = some (.int .i64 (lfF F n (x, y) (r, c))) := M2.out.num hix
  have HB2 := hide M2.out.bel
  by_cases hneg : lfF F n (x, y) (r, c) < 0
  · have dn : decide (lfF F n (x, y) (r, c) < 0) = true := decide_eq_true hneg
    go_wp2_with fail
    go_ret2
    exact wb_nil (wb_no hneg) HB2.out
  · have dn : decide (lfF F n (x, y) (r, c) < 0) = false := decide_eq_false hneg
    obtain ⟨K, hK⟩ : ∃ K : Nat, lfF F n (x, y) (r, c) = K := ⟨_, (Int.toNat_of_nonneg (by omega)).symm⟩
    have HK := hide hK
    clear hK
    go_wp2_with fail
    clear hcl dn
    go_loopg [9] (K + 1) (fun gn sv wr => ∃ (k : Nat) (p : Int × Int) (s : ByteArray), sv = .string s ∧ k < gn ∧ k ≤ 144 ∧ s.size + k ≤ 1000 ∧ Hid (opP F n p = true) ∧ Hid (lfF F n (x, y) p = k) ∧ Hid (wbG F n (x, y) k p s = wbG F n (x, y) K (r, c) ⟨#[]⟩) ∧ Hid (WMem w wr g N co (stF F n (x, y)) p))
    case atStart => exact ⟨K, (r, c), _, rfl, by omega, by have := HK.out; omega, by have := HK.out; show 0 + K ≤ 1000; omega, HOA, HK, rfl, M2⟩
    case round =>
      obtain ⟨k, p, s, rfl, hgk, hk144, hss, HP, HL, HW, HM⟩ := hrel
      obtain ⟨p0, p1, pf, pl⟩ := HM.out.box
      go_wp2_with fail
      refine (seIndex_p F n p lo hi _ _ (hv.below (B := w.heap.size) HM.out.bel hhi) (by have := HM.out.bel.size; omega) HG.out HP.out).mono ?_
      rintro e w3 ⟨rfl, hb3⟩
      have hz3 := hb3.size
      have M3 := hide (HM.out.below hb3)
      clear p0 p1 pf pl
      have hix3 := HIX.out _ HP.out
      have hcl : w3.cell? ⟨g, ixF F p, none⟩ = some (.int .i64 k) := by rw [← HL.out]; exact M3.out.num hix3
      cases k with
      | zero =>
        have HB3 := hide M3.out.bel
        have HW' : Hid (s = wbG F n (x, y) K (r, c) ⟨#[]⟩) := HW.out
        go_wp2_with fail
        go_ret2
        exact wb_at HOK.out HK.out HW'.out HB3.out
      | succ k =>
        have dk : decide (((k + 1 : Nat) : Int) > 0) = true := decide_eq_true (by omega)
        have hbs := M3.out.bel.size
        have hgs3 := M3.out.gs
        go_wp2_with fail
        go_loopg [9, 32] 5 (fun gi sv dv wr => ∃ j : Nat, sv = .string s ∧ dv = .int .i64 j ∧ j ≤ 4 ∧ 4 - j < gi ∧ Hid (∀ i, i < j → wbT F n (x, y) p i = false) ∧ Hid (WMem w wr g N co (stF F n (x, y)) p) ∧ Hid (wr.heap[w3.heap.size]? = some (.cells #[.int .i64 1, .int .i64 0, .int .i64 2, .int .i64 3] 3 (0, 0))) ∧ w3.heap.size < wr.heap.size)
        case atStart => exact ⟨0, rfl, rfl, by omega, by omega, fun i hi => absurd hi (Nat.not_lt_zero _), M3.out.below ((Below.refl _ _).alloc (Nat.le_refl _) _), heap_alloc_new w3 _, by simp⟩
        case round =>
          obtain ⟨j, rfl, rfl, hj, hgi, HJ, HMr, HFB, hlr⟩ := hrel
          by_cases hj4 : j < 4
          · have hoc := four_at HFB.out hj4
            obtain ⟨d, hd⟩ : ∃ d, d = ordD j := ⟨_, rfl⟩
            have hd4 : d < 4 := by rw [hd]; exact ordD_lt hj4
            rw [← hd] at hoc
            have HD := hide hd
            clear hd
            obtain ⟨q, hq⟩ : ∃ q, stp p d = q := ⟨_, rfl⟩
            have HQ := hide hq
            clear hq
            obtain ⟨b1, b2, b3, b4⟩ := opP_bd HP.out
            have hf12 := flB_facts HG.out
            have hn12 : n ≤ 12 := hf12.2.1
            have hw12 : (F 0).size ≤ 12 := hf12.2.2.2.1
            clear hf12
            obtain ⟨p0, p1, pf, pl⟩ := HMr.out.box
            have hbr := HMr.out.bel
            have hzr := hbr.size
            have hgr := HMr.out.gs
            go_wp2_with fail
            refine (seStep_p p q d _ HQ.out hd4 (by omega) (by omega) (by omega) (by omega)).mono ?_
            rintro e w4a ⟨rfl, hb4a⟩
            have hz4a := hb4a.size
            have M4a := hide (HMr.out.below hb4a)
            have F4a : Hid (w4a.heap[w3.heap.size]? = some (.cells #[.int .i64 1, .int .i64 0, .int .i64 2, .int .i64 3] 3 (0, 0))) := by
              show _ = _
              rw [hb4a.block _ hlr]
              exact HFB.out
            have hl4a : w3.heap.size < w4a.heap.size := by omega
            clear p0 p1 pf pl hoc
            go_wp2_with fail
            obtain ⟨w4, hw4⟩ : ∃ W, W = w4a.alloc (.cells #[.int .i64 q.1, .int .i64 q.2] 38) := ⟨_, rfl⟩
            rw [← hw4]
            have NQ : Hid (Bx2 w4 w4a.heap.size q.1 q.2) := by show Bx2 _ _ _ _; rw [hw4]; exact Bx2.new _ _ _
            have M4 : Hid (WMem w w4 g N co (stF F n (x, y)) p) := by show WMem _ _ _ _ _ _ _; rw [hw4]; exact M4a.out.below ((Below.refl _ _).alloc (Nat.le_refl _) _)
            have F4 : Hid (w4.heap[w3.heap.size]? = some (.cells #[.int .i64 1, .int .i64 0, .int .i64 2, .int .i64 3] 3 (0, 0))) := by
              show _ = _
              rw [hw4, ((Below.refl w4a.heap.size w4a).alloc (Nat.le_refl _) _).block _ hl4a]
              exact F4a.out
            have hz4 : w4a.heap.size < w4.heap.size := by rw [hw4]; simp
            clear hw4
            have HB4 := hide M4.out.bel
            have hls4 : w3.heap.size < w4.heap.size := by omega
            have hg4 : g < w4.heap.size := M4.out.gs
            have hs4 : w.heap.size < w4.heap.size := M4.out.box.lt
            have ng4 : w.heap.size < g := M4.out.gl
            have nq4 : w4a.heap.size ≠ w.heap.size := by omega
            clear hbr M4a F4a
            cases e1 : opB F n q.1 q.2 with
            | false =>
              have HC : Hid (∀ W, Below w4.heap.size w4 W → (W.cell? ⟨w4a.heap.size, 0, none⟩ = some (.int .i64 q.1) ∧ W.cell? ⟨w4a.heap.size, 1, none⟩ = some (.int .i64 q.2))) := fun W hW => ⟨(NQ.out.below hW NQ.out.lt).c0, (NQ.out.below hW NQ.out.lt).c1⟩
              have HT : Hid (wbT F n (x, y) p j = false) := by show _ = _; rw [wbT, ← HD.out, HQ.out, show opP F n q = false from e1]; rfl
              refine wp_region_mixd [(0, true), (1, true), (2, false), (3, true), (4, true), (5, true), (6, true), (10, true), (11, true), (12, true), (7, false), (8, true), (9, true), (13, false), (14, true), (15, true), (16, true), (17, true), (18, true)] (fun W => Below w4.heap.size w4 W) (by kernel_rfl) (by kernel_rfl) (by kernel_rfl) (by kernel_rfl) (Below.drew (Below.refl _ _)) ?_
              intro wd hwd hbd
              have hzd := hbd.size
              refine mix_look _ _ rfl rfl (fun w' _ => BigFrame.run_move _ rfl w') ?_
              go_simp
              refine mix_look _ (.agg #[.int .i64 q.1, .int .i64 q.2]) rfl rfl (fun w' hw' => (by obtain ⟨a0, a1⟩ := HC.out w' hw'; go_simp)) ?_
              go_simp
              refine mix_call _ 53 #[.slice A n capF, .agg #[.int .i64 q.1, .int .i64 q.2]] rfl rfl (by go_simp) ?_
              refine (seOpen_any F n q.1 q.2 lo hi _ _ (hv.below (B := w.heap.size) (HB4.out.trans (hbd.mono HB4.out.size)) hhi) (by have := HB4.out.size; omega) HG.out).mono ?_
              rintro e w5 ⟨rfl, hb5⟩
              have hz5 := hb5.size
              have hb45 : Below w4.heap.size w4 w5 := hbd.trans (hb5.mono hzd)
              refine ⟨_, rfl, hb45, ?_⟩
              rw [e1]
              go_simp
              refine mix_look _ _ rfl rfl (fun w' _ => BigFrame.run_move _ rfl w') ?_
              go_simp
              refine mix_skip _ rfl rfl ?_
              go_simp
              refine mix_skip _ rfl rfl ?_
              go_simp
              refine mix_skip _ rfl rfl ?_
              go_simp
              refine mix_skip _ rfl rfl ?_
              go_simp
              refine mix_skip _ rfl rfl ?_
              go_simp
              refine mix_skip _ rfl rfl ?_
              go_simp
              refine mix_skipF _ rfl rfl hb45 ?_
              go_simp
              refine mix_skip _ rfl rfl ?_
              go_simp
              refine mix_skip _ rfl rfl ?_
              go_simp
              refine mix_skipF _ rfl rfl hb45 ?_
              go_simp
              refine mix_skip _ rfl rfl ?_
              go_simp
              refine mix_skip _ rfl rfl ?_
              go_simp
              refine mix_skip _ rfl rfl ?_
              go_simp
              refine mix_skip _ rfl rfl ?_
              go_simp
              refine mix_look _ (.bool false) rfl rfl (fun w' hw' => (by go_simp)) ?_
              go_simp
              refine wpMix_nil ?_
              have M5 := hide (M4.out.below hb45)
              have F5 : Hid (w5.heap[w3.heap.size]? = some (.cells #[.int .i64 1, .int .i64 0, .int .i64 2, .int .i64 3] 3 (0, 0))) := by
                show _ = _
                rw [hb45.block _ hls4]
                exact F4.out
              have hl5 : w3.heap.size < w5.heap.size := Nat.lt_of_lt_of_le hls4 hb45.size
              have HJN : Hid (∀ i, i < j + 1 → wbT F n (x, y) p i = false) := fun i hi => by
                rcases Nat.lt_succ_iff_lt_or_eq.1 hi with h | rfl
                · exact HJ.out i h
                · exact HT.out
              clear HC
              go_wp2_with fail
              go_roundg (4 - j)
              case measure => omega
              case rel => exact ⟨j + 1, rfl, by go_num, by omega, by omega, HJN.out, M5.out, F5.out, hl5⟩
            | true =>
              have HOQ : Hid (opP F n q = true) := e1
              have hixq := HIX.out _ HOQ.out
              have hixp := HIX.out _ HP.out
              have HC : Hid (∀ W, Below w4.heap.size w4 W → (W.cell? ⟨w4a.heap.size, 0, none⟩ = some (.int .i64 q.1) ∧ W.cell? ⟨w4a.heap.size, 1, none⟩ = some (.int .i64 q.2)) ∧ (W.cell? ⟨w.heap.size, 0, none⟩ = some (.int .i64 p.1) ∧ W.cell? ⟨w.heap.size, 1, none⟩ = some (.int .i64 p.2)) ∧ W.cell? ⟨g, ixF F q, none⟩ = some (.int .i64 (lfF F n (x, y) q)) ∧ W.cell? ⟨g, ixF F p, none⟩ = some (.int .i64 ((k : Int) + 1))) := fun W hW => by
                have m := M4.out.below hW
                have l := HL.out
                refine ⟨⟨(NQ.out.below hW NQ.out.lt).c0, (NQ.out.below hW NQ.out.lt).c1⟩, ⟨m.box.c0, m.box.c1⟩, m.num (HIX.out _ HOQ.out), ?_⟩
                have h := m.num (HIX.out _ HP.out)
                rw [show stF F n (x, y) (ixF F p) = (k : Int) + 1 by have := HL.out; simp only [lfF] at this; omega] at h
                exact h
              have z1 : IntKind.i64.wrap (k : Int) = (k : Int) := IntWalk.i64_in _ (by omega)
              by_cases he : lfF F n (x, y) q = (k : Int)
              · have HE := hide he
                have HT : Hid (wbT F n (x, y) p j = true) := by show _ = _; rw [wbT, ← HD.out, HQ.out, HOQ.out, decide_eq_true (by rw [HL.out, he]; push_cast; omega)]; rfl
                refine wp_region_mixd [(0, true), (1, true), (2, false), (3, true), (4, true), (5, true), (6, true), (10, true), (11, true), (12, true), (7, false), (8, true), (9, true), (13, false), (14, true), (15, true), (16, true), (17, true), (18, true)] (fun W => Below w4.heap.size w4 W) (by kernel_rfl) (by kernel_rfl) (by kernel_rfl) (by kernel_rfl) (Below.drew (Below.refl _ _)) ?_
                intro wd hwd hbd
                have hzd := hbd.size
                refine mix_look _ _ rfl rfl (fun w' _ => BigFrame.run_move _ rfl w') ?_
                go_simp
                refine mix_look _ (.agg #[.int .i64 q.1, .int .i64 q.2]) rfl rfl (fun w' hw' => (by obtain ⟨⟨a0, a1⟩, ⟨a2, a3⟩, a4, a5⟩ := HC.out w' hw'; go_simp)) ?_
                go_simp
                refine mix_call _ 53 #[.slice A n capF, .agg #[.int .i64 q.1, .int .i64 q.2]] rfl rfl (by go_simp) ?_
                refine (seOpen_any F n q.1 q.2 lo hi _ _ (hv.below (B := w.heap.size) (HB4.out.trans (hbd.mono HB4.out.size)) hhi) (by have := HB4.out.size; omega) HG.out).mono ?_
                rintro e w5 ⟨rfl, hb5⟩
                have hz5 := hb5.size
                have hb45 : Below w4.heap.size w4 w5 := hbd.trans (hb5.mono hzd)
                refine ⟨_, rfl, hb45, ?_⟩
                rw [e1]
                go_simp
                refine mix_look _ _ rfl rfl (fun w' _ => BigFrame.run_move _ rfl w') ?_
                go_simp
                refine mix_look _ _ rfl rfl (fun w' _ => BigFrame.run_move _ rfl w') ?_
                go_simp
                refine mix_look _ _ rfl rfl (fun w' _ => BigFrame.run_move _ rfl w') ?_
                go_simp
                refine mix_look _ (.agg #[.int .i64 q.1, .int .i64 q.2]) rfl rfl (fun w' hw' => (by obtain ⟨⟨a0, a1⟩, ⟨a2, a3⟩, a4, a5⟩ := HC.out w' hw'; go_simp)) ?_
                go_simp
                refine mix_look _ _ rfl rfl (fun w' _ => BigFrame.run_move _ rfl w') ?_
                go_simp
                refine mix_look _ _ rfl rfl (fun w' _ => BigFrame.run_move _ rfl w') ?_
                go_simp
                refine mix_look _ (.agg #[.int .i64 p.1, .int .i64 p.2]) rfl rfl (fun w' hw' => (by obtain ⟨⟨a0, a1⟩, ⟨a2, a3⟩, a4, a5⟩ := HC.out w' hw'; go_simp)) ?_
                go_simp
                refine mix_call _ 91 #[.slice A n capF, .agg #[.int .i64 q.1, .int .i64 q.2]] rfl rfl (by go_simp) ?_
                refine (seIndex_p F n q lo hi _ _ (hv.below (B := w.heap.size) (HB4.out.trans (hb45.mono HB4.out.size)) hhi) (by have := HB4.out.size; have := hb45.size; omega) HG.out HOQ.out).mono ?_
                rintro e w6 ⟨rfl, hb6⟩
                have hz6 := hb6.size
                have hb46 : Below w4.heap.size w4 w6 := hb45.trans (hb6.mono hb45.size)
                refine ⟨_, rfl, hb46, ?_⟩
                go_simp
                refine mix_look _ (.pointer (some ⟨g, ixF F q, none⟩)) rfl rfl (fun w' hw' => (by go_simp)) ?_
                go_simp
                refine mix_look _ (.int .i64 (lfF F n (x, y) q)) rfl rfl (fun w' hw' => (by obtain ⟨⟨a0, a1⟩, ⟨a2, a3⟩, a4, a5⟩ := HC.out w' hw'; go_simp)) ?_
                go_simp
                refine mix_call _ 91 #[.slice A n capF, .agg #[.int .i64 p.1, .int .i64 p.2]] rfl rfl (by go_simp) ?_
                refine (seIndex_p F n p lo hi _ _ (hv.below (B := w.heap.size) (HB4.out.trans (hb46.mono HB4.out.size)) hhi) (by have := HB4.out.size; have := hb46.size; omega) HG.out HP.out).mono ?_
                rintro e w7 ⟨rfl, hb7⟩
                have hz7 := hb7.size
                have hb47 : Below w4.heap.size w4 w7 := hb46.trans (hb7.mono hb46.size)
                refine ⟨_, rfl, hb47, ?_⟩
                go_simp
                refine mix_look _ (.pointer (some ⟨g, ixF F p, none⟩)) rfl rfl (fun w' hw' => (by go_simp)) ?_
                go_simp
                refine mix_look _ (.int .i64 ((k : Int) + 1)) rfl rfl (fun w' hw' => (by obtain ⟨⟨a0, a1⟩, ⟨a2, a3⟩, a4, a5⟩ := HC.out w' hw'; go_simp)) ?_
                go_simp
                refine mix_look _ (.int .i64 k) rfl rfl (fun w' hw' => (by go_simp)) ?_
                go_simp
                refine mix_look _ (.bool true) rfl rfl (fun w' hw' => (by go_simp)) ?_
                go_simp
                refine mix_look _ (.bool true) rfl rfl (fun w' hw' => (by go_simp)) ?_
                go_simp
                refine wpMix_nil ?_
                have M7 := hide (M4.out.below hb47)
                have NQ7 := hide (NQ.out.below hb47 NQ.out.lt)
                have HS : Hid ((⟨#[110, 101, 115, 119]⟩ : ByteArray).extract d (d + 1) = ltrB d) := nesw_one hd4
                have HWN : Hid (wbG F n (x, y) k q (s ++ ltrB d) = wbG F n (x, y) K (r, c) ⟨#[]⟩) := by
                  have h := wbG_step (k := k) (s := s) HT.out hj4 HJ.out
                  rw [← HD.out, HQ.out] at h
                  exact h.symm.trans HW.out
                clear he HC
                obtain ⟨p0, p1, pf, pl⟩ := M7.out.box
                obtain ⟨q0, q1, qf, ql⟩ := NQ7.out
                have zd : IntKind.i64.wrap ((d : Int) + 1) = (d : Int) + 1 := IntWalk.i64_in _ (by omega)
                have hms : ¬ 9223372036854775807 < s.size + (min (d + 1) 4 - d) := by omega
                have hs2 : (s ++ ltrB d).size + k ≤ 1000 := by rw [ByteArray.size_append, ltrB_size]; omega
                go_wp2_with fail
                go_roundg (k + 1)
                case measure => omega
                case rel => exact ⟨k, q, s ++ ltrB d, by rw [HS.out], by omega, by omega, hs2, HOQ.out, HE.out, HWN.out, M7.out.move q.1 q.2⟩
              · have HT : Hid (wbT F n (x, y) p j = false) := by show _ = _; rw [wbT, ← HD.out, HQ.out, HOQ.out, decide_eq_false (by rw [HL.out]; push_cast; omega)]; rfl
                refine wp_region_mixd [(0, true), (1, true), (2, false), (3, true), (4, true), (5, true), (6, true), (10, true), (11, true), (12, true), (7, false), (8, true), (9, true), (13, false), (14, true), (15, true), (16, true), (17, true), (18, true)] (fun W => Below w4.heap.size w4 W) (by kernel_rfl) (by kernel_rfl) (by kernel_rfl) (by kernel_rfl) (Below.drew (Below.refl _ _)) ?_
                intro wd hwd hbd
                have hzd := hbd.size
                refine mix_look _ _ rfl rfl (fun w' _ => BigFrame.run_move _ rfl w') ?_
                go_simp
                refine mix_look _ (.agg #[.int .i64 q.1, .int .i64 q.2]) rfl rfl (fun w' hw' => (by obtain ⟨⟨a0, a1⟩, ⟨a2, a3⟩, a4, a5⟩ := HC.out w' hw'; go_simp)) ?_
                go_simp
                refine mix_call _ 53 #[.slice A n capF, .agg #[.int .i64 q.1, .int .i64 q.2]] rfl rfl (by go_simp) ?_
                refine (seOpen_any F n q.1 q.2 lo hi _ _ (hv.below (B := w.heap.size) (HB4.out.trans (hbd.mono HB4.out.size)) hhi) (by have := HB4.out.size; omega) HG.out).mono ?_
                rintro e w5 ⟨rfl, hb5⟩
                have hz5 := hb5.size
                have hb45 : Below w4.heap.size w4 w5 := hbd.trans (hb5.mono hzd)
                refine ⟨_, rfl, hb45, ?_⟩
                rw [e1]
                go_simp
                refine mix_look _ _ rfl rfl (fun w' _ => BigFrame.run_move _ rfl w') ?_
                go_simp
                refine mix_look _ _ rfl rfl (fun w' _ => BigFrame.run_move _ rfl w') ?_
                go_simp
                refine mix_look _ _ rfl rfl (fun w' _ => BigFrame.run_move _ rfl w') ?_
                go_simp
                refine mix_look _ (.agg #[.int .i64 q.1, .int .i64 q.2]) rfl rfl (fun w' hw' => (by obtain ⟨⟨a0, a1⟩, ⟨a2, a3⟩, a4, a5⟩ := HC.out w' hw'; go_simp)) ?_
                go_simp
                refine mix_look _ _ rfl rfl (fun w' _ => BigFrame.run_move _ rfl w') ?_
                go_simp
                refine mix_look _ _ rfl rfl (fun w' _ => BigFrame.run_move _ rfl w') ?_
                go_simp
                refine mix_look _ (.agg #[.int .i64 p.1, .int .i64 p.2]) rfl rfl (fun w' hw' => (by obtain ⟨⟨a0, a1⟩, ⟨a2, a3⟩, a4, a5⟩ := HC.out w' hw'; go_simp)) ?_
                go_simp
                refine mix_call _ 91 #[.slice A n capF, .agg #[.int .i64 q.1, .int .i64 q.2]] rfl rfl (by go_simp) ?_
                refine (seIndex_p F n q lo hi _ _ (hv.below (B := w.heap.size) (HB4.out.trans (hb45.mono HB4.out.size)) hhi) (by have := HB4.out.size; have := hb45.size; omega) HG.out HOQ.out).mono ?_
                rintro e w6 ⟨rfl, hb6⟩
                have hz6 := hb6.size
                have hb46 : Below w4.heap.size w4 w6 := hb45.trans (hb6.mono hb45.size)
                refine ⟨_, rfl, hb46, ?_⟩
                go_simp
                refine mix_look _ (.pointer (some ⟨g, ixF F q, none⟩)) rfl rfl (fun w' hw' => (by go_simp)) ?_
                go_simp
                refine mix_look _ (.int .i64 (lfF F n (x, y) q)) rfl rfl (fun w' hw' => (by obtain ⟨⟨a0, a1⟩, ⟨a2, a3⟩, a4, a5⟩ := HC.out w' hw'; go_simp)) ?_
                go_simp
                refine mix_call _ 91 #[.slice A n capF, .agg #[.int .i64 p.1, .int .i64 p.2]] rfl rfl (by go_simp) ?_
                refine (seIndex_p F n p lo hi _ _ (hv.below (B := w.heap.size) (HB4.out.trans (hb46.mono HB4.out.size)) hhi) (by have := HB4.out.size; have := hb46.size; omega) HG.out HP.out).mono ?_
                rintro e w7 ⟨rfl, hb7⟩
                have hz7 := hb7.size
                have hb47 : Below w4.heap.size w4 w7 := hb46.trans (hb7.mono hb46.size)
                refine ⟨_, rfl, hb47, ?_⟩
                go_simp
                refine mix_look _ (.pointer (some ⟨g, ixF F p, none⟩)) rfl rfl (fun w' hw' => (by go_simp)) ?_
                go_simp
                refine mix_look _ (.int .i64 ((k : Int) + 1)) rfl rfl (fun w' hw' => (by obtain ⟨⟨a0, a1⟩, ⟨a2, a3⟩, a4, a5⟩ := HC.out w' hw'; go_simp)) ?_
                go_simp
                refine mix_look _ (.int .i64 k) rfl rfl (fun w' hw' => (by go_simp)) ?_
                go_simp
                refine mix_look _ (.bool false) rfl rfl (fun w' hw' => (by go_simp)) ?_
                go_simp
                refine mix_look _ (.bool false) rfl rfl (fun w' hw' => (by go_simp)) ?_
                go_simp
                refine wpMix_nil ?_
                have M7 := hide (M4.out.below hb47)
                have F7 : Hid (w7.heap[w3.heap.size]? = some (.cells #[.int .i64 1, .int .i64 0, .int .i64 2, .int .i64 3] 3 (0, 0))) := by
                  show _ = _
                  rw [hb47.block _ hls4]
                  exact F4.out
                have hl7 : w3.heap.size < w7.heap.size := Nat.lt_of_lt_of_le hls4 hb47.size
                have HJN : Hid (∀ i, i < j + 1 → wbT F n (x, y) p i = false) := fun i hi => by
                  rcases Nat.lt_succ_iff_lt_or_eq.1 hi with h | rfl
                  · exact HJ.out i h
                  · exact HT.out
                clear he HC
                go_wp2_with fail
                go_roundg (4 - j)
                case measure => omega
                case rel => exact ⟨j + 1, rfl, by go_num, by omega, by omega, HJN.out, M7.out, F7.out, hl7⟩
          · exact (wb_some HOB.out HP.out HL.out (fun i hi => HJ.out i (by omega))).elim

end Go.Proofs.YtpckhpkbdanjoaaDoor
