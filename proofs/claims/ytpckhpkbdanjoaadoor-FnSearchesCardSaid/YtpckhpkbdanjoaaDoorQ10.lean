/-
  Texts of this proof, one behind the other (part 10).
-/
import Derived.Test.YtpckhpkbdanjoaaDoorQ9
/-
  Walks: WayBack: the reference's and the program's.-/
namespace Go.Proofs.YtpckhpkbdanjoaaDoor
set_option linter.unusedVariables false
set_option linter.unusedSimpArgs false
open Go.RowKit Go.Shelf Go.Deep

set_option maxRecDepth 100000 in
set_option maxHeartbeats 3200000 in
theorem WayBack_spec (F : Nat → ByteArray) (n : Nat) (r c x y : Int) (lo hi : Nat) (v : Value) (w : World) (hv : Sl w lo hi 1 v n (sC F)) (hhi : hi ≤ w.heap.size) (hf : ffits F n) :
    Calls Tryd.prog 30 #[v, .agg #[.int .i64 r, .int .i64 c], .agg #[.int .i64 x, .int .i64 y]] w (WbRes F n r c x y w) := by
  obtain ⟨A, capF, rfl, hcap, hA⟩ := hv.open_
  clear hA
  go_enter Tryd.func30, Tryd.ntmps30
  have B0 : Bx2 (w.alloc (.cells #[.int .i64 r, .int .i64 c] 38)) w.heap.size r c := Bx2.new w r c
  have B1 : Bx2 ((w.alloc (.cells #[.int .i64 r, .int .i64 c] 38)).alloc (.cells #[.int .i64 x, .int .i64 y] 38)) (w.heap.size + 1) x y := by
    have h := Bx2.new (w.alloc (.cells #[.int .i64 r, .int .i64 c] 38)) x y
    simp only [World.size_alloc] at h
    exact h
  go_wp2_with fail
  refine (seAsked_any F n r c lo hi _ _ (hv.below (B := w.heap.size) (by repeat (first | (with_reducible exact Below.refl _ _) | (with_reducible refine below_ov ?_ ?_) | (with_reducible refine Below.setCell ?_ ?_ _) | (with_reducible refine Below.alloc ?_ ?_ _) | (with_reducible refine Below.drew ?_) | (with_reducible refine below_drewN ?_ _) | (refine Below.trans ?_ (Below.mono ‹Below _ _ _› (by first | omega | (simp; done) | (simp; omega)))) | exact Below.refl _ _ | omega | (focus (simp; done)) | (focus (simp; omega)))) hhi) (by simp; omega) hf).mono ?_
  rintro e w1 ⟨rfl, hb1⟩
  have hz1 := hb1.size
  simp at hz1
  have hb01 : Below w.heap.size w w1 := (by repeat (first | (with_reducible exact Below.refl _ _) | (with_reducible refine below_ov ?_ ?_) | (with_reducible refine Below.setCell ?_ ?_ _) | (with_reducible refine Below.alloc ?_ ?_ _) | (with_reducible refine Below.drew ?_) | (with_reducible refine below_drewN ?_ _) | (refine Below.trans ?_ (Below.mono ‹Below _ _ _› (by first | omega | (simp; done) | (simp; omega)))) | exact Below.refl _ _ | omega | (focus (simp; done)) | (focus (simp; omega))))
  have P0 := (B0.below ((Below.refl _ _).alloc (Nat.le_refl _) (.cells #[.int .i64 x, .int .i64 y] 38)) (by simp)).below hb1 (by simp; omega)
  have P1 := B1.below hb1 (by simp)
  clear B0 B1
  cases e1 : sfOk F n r c with
  | false =>
    have HX : Hid (wbOk F n r c x y = false) := by show _ = _; rw [wbOk, e1]; rfl
    clear P0 P1
    go_wp2_with fail
    go_ret2
    exact wb_nil HX.out hb01
  | true =>
    have HS := hide e1
    have HG : Hid (flB F n = true) := by
      show _ = _
      simp only [sfOk, Bool.and_eq_true] at e1
      exact e1.1
    have HP0 := hide P0
    have HP1 := hide P1
    obtain ⟨q0, q1, qf, ql⟩ := P1
    clear e1 P0
    go_wp2_with fail
    refine (seOpen_any F n x y lo hi _ _ (hv.below (B := w.heap.size) hb01 hhi) (by omega) HG.out).mono ?_
    rintro e w2 ⟨rfl, hb2⟩
    have hz2 := hb2.size
    have hb02 : Below w.heap.size w w2 := hb01.trans (hb2.mono (by omega))
    have HQ0 := hide (HP0.out.below hb2 HP0.out.lt)
    have HQ1 := hide (HP1.out.below hb2 HP1.out.lt)
    clear q0 q1 qf ql
    cases e2 : opB F n x y with
    | false =>
      have HX : Hid (wbOk F n r c x y = false) := by show _ = _; rw [wbOk, e2]; simp
      go_wp2_with fail
      go_ret2
      exact wb_nil HX.out hb02
    | true =>
      have HO := hide e2
      obtain ⟨p0, p1, pf, pl⟩ := HQ0.out
      obtain ⟨q0, q1, qf, ql⟩ := HQ1.out
      clear e2
      go_wp2_with fail
      refine (seWay_any F n r c x y lo hi _ _ (hv.below (B := w.heap.size) hb02 hhi) (by omega) HS.out HO.out).mono ?_
      rintro e w3 ⟨rfl, hb3⟩
      have hz3 := hb3.size
      have hb03 : Below w.heap.size w w3 := hb02.trans (hb3.mono (by omega))
      clear p0 p1 pf pl q0 q1 qf ql
      go_wp2_with fail
      go_ret2
      exact ⟨rfl, hb03⟩
def eLs : ByteArray := ⟨#[101, 110, 115, 119]⟩
theorem enc_dL {d : Nat} (h : d < 4) : Utf8.encode (dL d) = ltrB d := by
  have h4 : d = 0 ∨ d = 1 ∨ d = 2 ∨ d = 3 := by omega
  rcases h4 with rfl | rfl | rfl | rfl <;> decide
theorem run_next_e {P : Program} (w : World) (b j : Nat) (ty : TypeId) (hb : w.heap[b]? = some (.stringIter eLs j)) (h : j < 4) :
    (Instr.next (.pointer (some ⟨b, 0, none⟩)) true ty).run P w = .ok (.tuple #[.bool true, .int .i64 j, .int .i32 (dL (ordD j))]) (setIter w b eLs (j + 1)) := by
  have h4 : j = 0 ∨ j = 1 ∨ j = 2 ∨ j = 3 := by omega
  rcases h4 with rfl | rfl | rfl | rfl
  · exact run_next_at w b eLs 0 ty hb (by decide) (by decide)
  · exact run_next_at w b eLs 1 ty hb (by decide) (by decide)
  · exact run_next_at w b eLs 2 ty hb (by decide) (by decide)
  · exact run_next_at w b eLs 3 ty hb (by decide) (by decide)
set_option maxRecDepth 100000 in
set_option maxHeartbeats 6400000 in
theorem WayBack_impl (F : Nat → ByteArray) (n : Nat) (r c x y : Int) (lo hi : Nat) (v : Value) (w : World) (hv : Sl w lo hi 1 v n (sC F)) (hhi : hi ≤ w.heap.size) (hf : ffits F n) :
    Calls Tryd.prog 29 #[v, .agg #[.int .i64 r, .int .i64 c], .agg #[.int .i64 x, .int .i64 y]] w (WbRes F n r c x y w) := by
  obtain ⟨A, capF, rfl, hcap, hA⟩ := hv.open_
  go_enter Tryd.func29, Tryd.ntmps29
  have B0 : Bx2 (w.alloc (.cells #[.int .i64 r, .int .i64 c] 38)) w.heap.size r c := Bx2.new w r c
  have B1 : Bx2 ((w.alloc (.cells #[.int .i64 r, .int .i64 c] 38)).alloc (.cells #[.int .i64 x, .int .i64 y] 38)) (w.heap.size + 1) x y := by
    have h := Bx2.new (w.alloc (.cells #[.int .i64 r, .int .i64 c] 38)) x y
    simp only [World.size_alloc] at h
    exact h
  go_wp2_with fail
  refine (isFloor_any F n lo hi _ _ (hv.below (B := w.heap.size) (by repeat (first | (with_reducible exact Below.refl _ _) | (with_reducible refine below_ov ?_ ?_) | (with_reducible refine Below.setCell ?_ ?_ _) | (with_reducible refine Below.alloc ?_ ?_ _) | (with_reducible refine Below.drew ?_) | (with_reducible refine below_drewN ?_ _) | (refine Below.trans ?_ (Below.mono ‹Below _ _ _› (by first | omega | (simp; done) | (simp; omega)))) | exact Below.refl _ _ | omega | (focus (simp; done)) | (focus (simp; omega)))) hhi) (by simp; omega) hf).mono ?_
  rintro e w0 ⟨rfl, hb0⟩
  have hz0 := hb0.size
  simp at hz0
  have hb00 : Below w.heap.size w w0 := (by repeat (first | (with_reducible exact Below.refl _ _) | (with_reducible refine below_ov ?_ ?_) | (with_reducible refine Below.setCell ?_ ?_ _) | (with_reducible refine Below.alloc ?_ ?_ _) | (with_reducible refine Below.drew ?_) | (with_reducible refine below_drewN ?_ _) | (refine Below.trans ?_ (Below.mono ‹Below _ _ _› (by first | omega | (simp; done) | (simp; omega)))) | exact Below.refl _ _ | omega | (focus (simp; done)) | (focus (simp; omega))))
  have HP0 := hide ((B0.below ((Below.refl _ _).alloc (Nat.le_refl _) (.cells #[.int .i64 x, .int .i64 y] 38)) (by simp)).below hb0 (by simp; omega))
  have HP1 := hide (B1.below hb0 (by simp))
  clear B0 B1
  cases e0 : flB F n with
  | false =>
    have HX : Hid (wbOk F n r c x y = false) := by show _ = _; rw [wbOk, sfOk, e0]; rfl
    go_wp2_with fail
    go_ret2
    exact wb_nil HX.out hb00
  | true =>
  have HG := hide e0
  obtain ⟨p0, p1, pf, pl⟩ := HP0.out
  clear e0
  go_wp2_with fail
  refine (isOpen_any F n r c lo hi _ _ (hv.below (B := w.heap.size) hb00 hhi) (by omega) HG.out).mono ?_
  rintro e w1 ⟨rfl, hb1⟩
  have hz1 := hb1.size
  have hb01 : Below w.heap.size w w1 := hb00.trans (hb1.mono (by omega))
  have HQ0 := hide (HP0.out.below hb1 HP0.out.lt)
  have HQ1 := hide (HP1.out.below hb1 HP1.out.lt)
  clear p0 p1 pf pl HP0 HP1
  cases e1 : opB F n r c with
  | false =>
    have HX : Hid (wbOk F n r c x y = false) := by show _ = _; rw [wbOk, sfOk, e1]; simp
    go_wp2_with fail
    go_ret2
    exact wb_nil HX.out hb01
  | true =>
  have HOA : Hid (opP F n (r, c) = true) := e1
  obtain ⟨p0, p1, pf, pl⟩ := HQ1.out
  clear e1
  go_wp2_with fail
  refine (isOpen_any F n x y lo hi _ _ (hv.below (B := w.heap.size) hb01 hhi) (by omega) HG.out).mono ?_
  rintro e w2 ⟨rfl, hb2⟩
  have hz2 := hb2.size
  have hb02 : Below w.heap.size w w2 := hb01.trans (hb2.mono (by omega))
  have HR0 := hide (HQ0.out.below hb2 HQ0.out.lt)
  have HR1 := hide (HQ1.out.below hb2 HQ1.out.lt)
  clear p0 p1 pf pl HQ0 HQ1
  cases e2 : opB F n x y with
  | false =>
    have HX : Hid (wbOk F n r c x y = false) := by show _ = _; rw [wbOk, e2]; simp
    go_wp2_with fail
    go_ret2
    exact wb_nil HX.out hb02
  | true =>
  have HOB : Hid (opP F n (x, y) = true) := e2
  clear e2
  have HOK : Hid ((sfOk F n r c && opB F n x y) = true) := by
    show _ = _
    rw [sfOk, HG.out, show opB F n r c = true from HOA.out, show opB F n x y = true from HOB.out]
    rfl
  have har := fl_area HG.out
  obtain ⟨g1, g2, g3, g4, _, _⟩ := flB_facts HG.out
  obtain ⟨blk, off, rfl, h1, h2, h3⟩ := hA (by omega)
  have c0 : w.cell? ⟨blk, off, none⟩ = some (.string (F 0)) := by simpa [sC] using h3 0 0 (by omega) (by omega)
  have l0 : blk < w.heap.size := by omega
  have HC2 : Hid (w2.cell? ⟨blk, off, none⟩ = some (.string (F 0))) := (hb02.cell (p := ⟨blk, off, none⟩) l0).trans c0
  have hn0 : n ≠ 0 := by omega
  have hl2 : blk < w2.heap.size := by omega
  clear hA h3 c0
  go_wp2_with fail
  refine wp_region_mixd [(0, true), (1, true), (3, true), (4, true), (5, true), (6, true), (2, false), (7, true), (8, true)] (fun W => Below w2.heap.size w2 W) (by kernel_rfl) (by kernel_rfl) (by kernel_rfl) (by kernel_rfl) (Below.drew (Below.refl _ _)) ?_
  intro wd hwd hbd
  have hzd := hbd.size
  have HCC : Hid (∀ W, Below w2.heap.size w2 W → (W.cell? ⟨w.heap.size + 1, 0, none⟩ = some (.int .i64 x) ∧ W.cell? ⟨w.heap.size + 1, 1, none⟩ = some (.int .i64 y)) ∧ W.cell? ⟨blk, off, none⟩ = some (.string (F 0))) := fun W hW =>
    ⟨⟨(HR1.out.below hW HR1.out.lt).c0, (HR1.out.below hW HR1.out.lt).c1⟩, (hW.cell (p := ⟨blk, off, none⟩) hl2).trans HC2.out⟩
  refine mix_look _ _ rfl rfl (fun w' _ => BigFrame.run_move _ rfl w') ?_
  go_simp
  refine mix_look _ (.agg #[.int .i64 x, .int .i64 y]) rfl rfl (fun w' hw' => (by obtain ⟨⟨a0, a1⟩, a2⟩ := HCC.out w' hw'; go_simp)) ?_
  go_simp
  refine mix_look _ _ rfl rfl (fun w' _ => BigFrame.run_move _ rfl w') ?_
  go_simp
  refine mix_look _ (.pointer (some ⟨blk, off, none⟩)) rfl rfl (fun w' hw' => (by go_simp)) ?_
  go_simp
  refine mix_look _ (.string (F 0)) rfl rfl (fun w' hw' => (by obtain ⟨⟨a0, a1⟩, a2⟩ := HCC.out w' hw'; go_simp)) ?_
  go_simp
  refine mix_look _ (.int .i64 (F 0).size) rfl rfl (fun w' hw' => (by go_simp)) ?_
  go_simp
  refine mix_call _ 72 #[.slice (some ⟨blk, off, none⟩) n capF, .agg #[.int .i64 x, .int .i64 y]] rfl rfl (by go_simp) ?_
  refine (stepsFrom_any F n x y lo hi _ _ (hv.below (B := w.heap.size) (hb02.trans (hbd.mono (by omega))) hhi) (by omega) HG.out HOB.out).mono ?_
  rintro e w3 ⟨g, rfl, ho, hg1, hg2, hb3⟩
  have hz3 := hb3.size
  have hb23 : Below w2.heap.size w2 w3 := hbd.trans (hb3.mono (by omega))
  refine ⟨_, rfl, hb23, ?_⟩
  go_simp
  refine mix_look _ _ rfl rfl (fun w' _ => BigFrame.run_assign _ rfl w') ?_
  go_simp
  refine mix_look _ _ rfl rfl (fun w' _ => BigFrame.run_assign _ rfl w') ?_
  go_simp
  refine wpMix_nil ?_
  have hN : n * (F 0).size ≤ 144 := har.2
  have hN1 : 1 ≤ n * (F 0).size := har.1
  clear har HCC hwd
  obtain ⟨N, HN⟩ : ∃ N, N = n * (F 0).size := ⟨_, rfl⟩
  rw [← HN] at ho hN hN1
  (try rw [← HN])
  have HNN := hide HN
  clear HN
  have M3 : Hid (WMem w w3 g N N (stF F n (x, y)) (r, c)) :=
    ⟨ho, HR0.out.below hb23 HR0.out.lt, by omega, hg2, hb02.trans (hb23.mono (by omega))⟩
  have HBT := hide (HR1.out.below hb23 HR1.out.lt)
  clear ho HR0 HR1
  have HIX : Hid (∀ p, opP F n p = true → ixF F p < N) := fun p hp => by rw [HNN.out]; exact ix_lt hp
  have hlf := lf_bd (F := F) (n := n) HOB.out (r, c)
  rw [← HNN.out] at hlf
  have hix := HIX.out _ HOA.out
  have mb0 : (0 : Int) ≤ r * ((F 0).size : Int) ∧ r * ((F 0).size : Int) ≤ 144 := mulP_bd HOA.out g2 g4
  have z0 : IntKind.i64.wrap (r * ((F 0).size : Int)) = r * ((F 0).size : Int) := IntWalk.i64_in _ (by omega)
  have m0 : r * ((F 0).size : Int) + c = (ixF F (r, c) : Int) := ix_cast (p := (r, c)) HOA.out
  have hcl : w3.cell? ⟨g, ixF F (r, c), none⟩ = some (.int .i64 (lfF F n (x, y) (r, c))) := M3.out.num hix
  obtain ⟨p0, p1, pf, pl⟩ := M3.out.box
  simp only at p0 p1
  have lg3 := M3.out.gs
  by_cases hneg : lfF F n (x, y) (r, c) < 0
  · have dn : decide (lfF F n (x, y) (r, c) < 0) = true := decide_eq_true hneg
    go_wp2_with fail
    go_ret2
    exact wb_nil (wb_no hneg) M3.out.bel
  · have dn : decide (lfF F n (x, y) (r, c) < 0) = false := decide_eq_false hneg
    obtain ⟨K, hK⟩ : ∃ K : Nat, lfF F n (x, y) (r, c) = K := ⟨_, (Int.toNat_of_nonneg (by omega)).symm⟩
    have HK := hide hK
    have hK144 : K ≤ 144 := by omega
    clear hK
    go_wp2_with fail
    clear hcl dn p0 p1 pf pl mb0 z0 m0 hlf hneg
    go_loopg [10] (K + 1) (fun gn sv wr => ∃ (k : Nat) (p : Int × Int) (s : ByteArray), sv = .string s ∧ k < gn ∧ k ≤ 144 ∧ s.size + k ≤ 1000 ∧ Hid (opP F n p = true) ∧ Hid (lfF F n (x, y) p = k) ∧ Hid (wbG F n (x, y) k p s = wbG F n (x, y) K (r, c) ⟨#[]⟩) ∧ Hid (WMem w wr g N N (stF F n (x, y)) p) ∧ Hid (Bx2 wr (w.heap.size + 1) x y))
    case atStart => exact ⟨K, (r, c), _, rfl, by omega, hK144, by show 0 + K ≤ 1000; omega, HOA, HK, rfl, M3, HBT⟩
    case round =>
      obtain ⟨k, p, s, rfl, hgk, hk144, hss, HP, HL, HW, HM, HT1⟩ := hrel
      obtain ⟨p0, p1, pf, pl⟩ := HM.out.box
      obtain ⟨q0, q1, qf, ql⟩ := HT1.out
      have hsm := wb_same HOB.out HP.out (by rw [HL.out]; omega)
      cases k with
      | zero =>
        have he : p = (x, y) := hsm.2 HL.out
        have h1 : p.1 = x := by rw [he]
        have h2 : p.2 = y := by rw [he]
        have HW' : Hid (s = wbG F n (x, y) K (r, c) ⟨#[]⟩) := HW.out
        have HB := hide HM.out.bel
        clear hsm he
        go_wp2_with fail
        go_ret2
        exact wb_at HOK.out HK.out HW'.out HB.out
      | succ k =>
        have hne : ¬ (p.1 = x ∧ p.2 = y) := fun h => by
          have h0 := hsm.1 (Prod.ext h.1 h.2)
          rw [HL.out] at h0
          omega
        have hbs := HM.out.bel.size
        have hgs := HM.out.gs
        clear hsm
        obtain ⟨wo, ewo⟩ : ∃ wo : World, wo = wr := ⟨_, rfl⟩
        subst ewo
        by_cases h2 : p.2 = y
        · have h1 : ¬ p.1 = x := fun h => hne ⟨h, h2⟩
          clear hne
          go_wp2_with fail
          clear h1 h2
          clear p0 p1 pf pl q0 q1 qf ql
          have hgo := hgs
          have hwo : w.heap.size + 1 < wo.heap.size := HT1.out.lt
          go_loopg [10] 5 (fun gi sv wr => ∃ j : Nat, sv = .string s ∧ j ≤ 4 ∧ 4 - j < gi ∧ Hid (∀ i, i < j → wbT F n (x, y) p i = false) ∧ Hid (WMem w wr g N N (stF F n (x, y)) p) ∧ Hid (Bx2 wr (w.heap.size + 1) x y) ∧ Hid (wr.heap[wo.heap.size]? = some (.stringIter eLs j)) ∧ wo.heap.size < wr.heap.size)
          case atStart => exact ⟨0, rfl, by omega, by omega, fun i hi => absurd hi (Nat.not_lt_zero _), HM.out.below ((Below.refl _ _).alloc (Nat.le_refl _) _), HT1.out.below ((Below.refl _ _).alloc (Nat.le_refl _) _) HT1.out.lt, World.iter_heap _ _ _, by simp [World.iter]⟩
          case round =>
            obtain ⟨j, rfl, hj, hgi, HJ, HMr, HTr, HIT, hil⟩ := hrel
            by_cases hj4 : j < 4
            · have hnx := fun ty => run_next_e (P := Tryd.prog) wr wo.heap.size j ty HIT.out hj4
              obtain ⟨W1, hW1⟩ : ∃ W1, W1 = setIter wr wo.heap.size eLs (j + 1) := ⟨_, rfl⟩
              rw [← hW1] at hnx
              have M1 : Hid (WMem w W1 g N N (stF F n (x, y)) p) := by
                show WMem _ _ _ _ _ _ _
                rw [hW1]
                exact HMr.out.keep (setIter_other (by omega) _ _) (setIter_other (by omega) _ _) (by rw [setIter_size]; exact Nat.le_refl _) (setIter_below HMr.out.bel (by omega) _ _)
              have T1 : Hid (Bx2 W1 (w.heap.size + 1) x y) := by
                show Bx2 _ _ _ _
                rw [hW1]
                exact HTr.out.keep (setIter_other (by omega) _ _) (by rw [setIter_size]; exact HTr.out.lt)
              have I1 : Hid (W1.heap[wo.heap.size]? = some (.stringIter eLs (j + 1))) := by show _ = _; rw [hW1]; exact setIter_at hil _ _
              have hil1 : wo.heap.size < W1.heap.size := by rw [hW1, setIter_size]; exact hil
              clear hW1
              obtain ⟨d, hd⟩ : ∃ d, d = ordD j := ⟨_, rfl⟩
              have hd4 : d < 4 := by rw [hd]; exact ordD_lt hj4
              rw [← hd] at hnx
              have HD := hide hd
              clear hd
              obtain ⟨q, hq⟩ : ∃ q, stp p d = q := ⟨_, rfl⟩
              have HQ := hide hq
              clear hq
              obtain ⟨b1, b2, b3, b4⟩ := opP_bd HP.out
              have dw := dL_wrap d
              have hdw : IntKind.wrap .u8 (dL d) = dL d := dw
              obtain ⟨p0, p1, pf, pl⟩ := M1.out.box
              have hbr := M1.out.bel
              have hzr := hbr.size
              go_wp2_with fail
              refine (stepTo_p p q d _ HQ.out hd4 (by omega) (by omega) (by omega) (by omega)).mono ?_
              rintro e w4a ⟨rfl, hb4a⟩
              have hz4a := hb4a.size
              have M4a := hide (M1.out.below hb4a)
              have T4a := hide (T1.out.below hb4a T1.out.lt)
              have I4a : Hid (w4a.heap[wo.heap.size]? = some (.stringIter eLs (j + 1))) := by
                show _ = _
                rw [hb4a.block _ hil1]
                exact I1.out
              have hl4a : wo.heap.size < w4a.heap.size := by omega
              clear p0 p1 pf pl hnx
              go_wp2_with fail
              obtain ⟨w4, hw4⟩ : ∃ W, W = w4a.alloc (.cells #[.int .i64 q.1, .int .i64 q.2] 38) := ⟨_, rfl⟩
              rw [← hw4]
              have NQ : Hid (Bx2 w4 w4a.heap.size q.1 q.2) := by show Bx2 _ _ _ _; rw [hw4]; exact Bx2.new _ _ _
              have M4 : Hid (WMem w w4 g N N (stF F n (x, y)) p) := by show WMem _ _ _ _ _ _ _; rw [hw4]; exact M4a.out.below ((Below.refl _ _).alloc (Nat.le_refl _) _)
              have T4 : Hid (Bx2 w4 (w.heap.size + 1) x y) := by show Bx2 _ _ _ _; rw [hw4]; exact T4a.out.below ((Below.refl _ _).alloc (Nat.le_refl _) _) T4a.out.lt
              have I4 : Hid (w4.heap[wo.heap.size]? = some (.stringIter eLs (j + 1))) := by
                show _ = _
                rw [hw4, ((Below.refl w4a.heap.size w4a).alloc (Nat.le_refl _) _).block _ hl4a]
                exact I4a.out
              have hz4 : w4a.heap.size < w4.heap.size := by rw [hw4]; simp
              clear hw4
              have HB4 := hide M4.out.bel
              have hls4 : wo.heap.size < w4.heap.size := by omega
              have hg4 : g < w4.heap.size := M4.out.gs
              have hs4 : w.heap.size < w4.heap.size := M4.out.box.lt
              have ng4 : w.heap.size < g := M4.out.gl
              have nq4 : w4a.heap.size ≠ w.heap.size := by omega
              clear hbr M4a T4a I4a dw hdw
              cases e1 : opB F n q.1 q.2 with
              | false =>
                have HC : Hid (∀ W, Below w4.heap.size w4 W → (W.cell? ⟨w4a.heap.size, 0, none⟩ = some (.int .i64 q.1) ∧ W.cell? ⟨w4a.heap.size, 1, none⟩ = some (.int .i64 q.2))) := fun W hW => ⟨(NQ.out.below hW NQ.out.lt).c0, (NQ.out.below hW NQ.out.lt).c1⟩
                have HT : Hid (wbT F n (x, y) p j = false) := by show _ = _; rw [wbT, ← HD.out, HQ.out, show opP F n q = false from e1]; rfl
                refine wp_region_mixd [(0, true), (1, true), (2, false), (3, true), (4, true), (5, true), (6, true), (7, true), (8, true), (9, true), (10, true), (11, true), (12, true), (13, true), (14, true), (15, true), (16, true), (17, true), (18, true), (19, true), (20, true), (21, true), (22, true), (23, true), (24, true), (25, true), (26, true)] (fun W => Below w4.heap.size w4 W) (by kernel_rfl) (by kernel_rfl) (by kernel_rfl) (by kernel_rfl) (Below.drew (Below.refl _ _)) ?_
                intro wd hwd hbd
                have hzd := hbd.size
                refine mix_look _ _ rfl rfl (fun w' _ => BigFrame.run_move _ rfl w') ?_
                go_simp
                refine mix_look _ (.agg #[.int .i64 q.1, .int .i64 q.2]) rfl rfl (fun w' hw' => (by obtain ⟨a0, a1⟩ := HC.out w' hw'; go_simp)) ?_
                go_simp
                refine mix_call _ 59 #[.slice (some ⟨blk, off, none⟩) n capF, .agg #[.int .i64 q.1, .int .i64 q.2]] rfl rfl (by go_simp) ?_
                refine (isOpen_any F n q.1 q.2 lo hi _ _ (hv.below (B := w.heap.size) (HB4.out.trans (hbd.mono HB4.out.size)) hhi) (by have := HB4.out.size; omega) HG.out).mono ?_
                rintro e w5 ⟨rfl, hb5⟩
                have hz5 := hb5.size
                have hb45 : Below w4.heap.size w4 w5 := hbd.trans (hb5.mono hzd)
                refine ⟨_, rfl, hb45, ?_⟩
                rw [e1]
                go_simp
                refine mix_look _ _ rfl rfl (fun w' _ => BigFrame.run_move _ rfl w') ?_
                go_simp
                refine mix_skip _ rfl rfl ?_
                go_simp
                refine mix_skip _ rfl rfl ?_
                go_simp
                refine mix_skip _ rfl rfl ?_
                go_simp
                refine mix_skip _ rfl rfl ?_
                go_simp
                refine mix_skip _ rfl rfl ?_
                go_simp
                refine mix_skip _ rfl rfl ?_
                go_simp
                refine mix_skip _ rfl rfl ?_
                go_simp
                refine mix_skip _ rfl rfl ?_
                go_simp
                refine mix_skip _ rfl rfl ?_
                go_simp
                refine mix_skip _ rfl rfl ?_
                go_simp
                refine mix_skip _ rfl rfl ?_
                go_simp
                refine mix_skip _ rfl rfl ?_
                go_simp
                refine mix_skip _ rfl rfl ?_
                go_simp
                refine mix_skip _ rfl rfl ?_
                go_simp
                refine mix_skip _ rfl rfl ?_
                go_simp
                refine mix_skip _ rfl rfl ?_
                go_simp
                refine mix_skip _ rfl rfl ?_
                go_simp
                refine mix_skip _ rfl rfl ?_
                go_simp
                refine mix_skip _ rfl rfl ?_
                go_simp
                refine mix_skip _ rfl rfl ?_
                go_simp
                refine mix_skip _ rfl rfl ?_
                go_simp
                refine mix_skip _ rfl rfl ?_
                go_simp
                refine mix_look _ (.bool false) rfl rfl (fun w' hw' => (by go_simp)) ?_
                go_simp
                refine wpMix_nil ?_
                have M5 := hide (M4.out.below hb45)
                have T5 := hide (T4.out.below hb45 T4.out.lt)
                have I5 : Hid (w5.heap[wo.heap.size]? = some (.stringIter eLs (j + 1))) := by
                  show _ = _
                  rw [hb45.block _ hls4]
                  exact I4.out
                have hl5 : wo.heap.size < w5.heap.size := Nat.lt_of_lt_of_le hls4 hb45.size
                have HJN : Hid (∀ i, i < j + 1 → wbT F n (x, y) p i = false) := fun i hi => by
                  rcases Nat.lt_succ_iff_lt_or_eq.1 hi with h | rfl
                  · exact HJ.out i h
                  · exact HT.out
                clear HC
                go_wp2_with fail
                go_roundg (4 - j)
                case measure => omega
                case rel => exact ⟨j + 1, rfl, by omega, by omega, HJN.out, M5.out, T5.out, I5.out, hl5⟩
              | true =>
                have HOQ : Hid (opP F n q = true) := e1
                have hixq := HIX.out _ HOQ.out
                have hixp := HIX.out _ HP.out
                have HC : Hid (∀ W, Below w4.heap.size w4 W → (W.cell? ⟨w4a.heap.size, 0, none⟩ = some (.int .i64 q.1) ∧ W.cell? ⟨w4a.heap.size, 1, none⟩ = some (.int .i64 q.2)) ∧ (W.cell? ⟨w.heap.size, 0, none⟩ = some (.int .i64 p.1) ∧ W.cell? ⟨w.heap.size, 1, none⟩ = some (.int .i64 p.2)) ∧ W.cell? ⟨g, ixF F q, none⟩ = some (.int .i64 (lfF F n (x, y) q)) ∧ W.cell? ⟨g, ixF F p, none⟩ = some (.int .i64 ((k : Int) + 1))) := fun W hW => by
                  have m := M4.out.below hW
                  have l := HL.out
                  refine ⟨⟨(NQ.out.below hW NQ.out.lt).c0, (NQ.out.below hW NQ.out.lt).c1⟩, ⟨m.box.c0, m.box.c1⟩, m.num (HIX.out _ HOQ.out), ?_⟩
                  have h := m.num (HIX.out _ HP.out)
                  rw [show stF F n (x, y) (ixF F p) = (k : Int) + 1 by have := HL.out; simp only [lfF] at this; omega] at h
                  exact h
                have z1 : IntKind.i64.wrap (k : Int) = (k : Int) := IntWalk.i64_in _ (by omega)
                have mbq := mulP_bd HOQ.out g2 g4
                have zmq : IntKind.i64.wrap (q.1 * ((F 0).size : Int)) = q.1 * ((F 0).size : Int) := IntWalk.i64_in _ (by omega)
                have maq := ix_cast HOQ.out
                have ziq : IntKind.i64.wrap ((ixF F q : Nat) : Int) = ((ixF F q : Nat) : Int) := IntWalk.i64_in _ (by omega)
                have mbp := mulP_bd HP.out g2 g4
                have zmp : IntKind.i64.wrap (p.1 * ((F 0).size : Int)) = p.1 * ((F 0).size : Int) := IntWalk.i64_in _ (by omega)
                have map_ := ix_cast HP.out
                have zip_ : IntKind.i64.wrap ((ixF F p : Nat) : Int) = ((ixF F p : Nat) : Int) := IntWalk.i64_in _ (by omega)
                by_cases he : lfF F n (x, y) q = (k : Int)
                · have HE := hide he
                  have HT : Hid (wbT F n (x, y) p j = true) := by show _ = _; rw [wbT, ← HD.out, HQ.out, HOQ.out, decide_eq_true (by rw [HL.out, he]; push_cast; omega)]; rfl
                  refine wp_region_mixd [(0, true), (1, true), (2, false), (3, true), (4, true), (5, true), (6, true), (7, true), (8, true), (9, true), (10, true), (11, true), (12, true), (13, true), (14, true), (15, true), (16, true), (17, true), (18, true), (19, true), (20, true), (21, true), (22, true), (23, true), (24, true), (25, true), (26, true)] (fun W => Below w4.heap.size w4 W) (by kernel_rfl) (by kernel_rfl) (by kernel_rfl) (by kernel_rfl) (Below.drew (Below.refl _ _)) ?_
                  intro wd hwd hbd
                  have hzd := hbd.size
                  refine mix_look _ _ rfl rfl (fun w' _ => BigFrame.run_move _ rfl w') ?_
                  go_simp
                  refine mix_look _ (.agg #[.int .i64 q.1, .int .i64 q.2]) rfl rfl (fun w' hw' => (by obtain ⟨⟨a0, a1⟩, ⟨a2, a3⟩, a4, a5⟩ := HC.out w' hw'; go_simp)) ?_
                  go_simp
                  refine mix_call _ 59 #[.slice (some ⟨blk, off, none⟩) n capF, .agg #[.int .i64 q.1, .int .i64 q.2]] rfl rfl (by go_simp) ?_
                  refine (isOpen_any F n q.1 q.2 lo hi _ _ (hv.below (B := w.heap.size) (HB4.out.trans (hbd.mono HB4.out.size)) hhi) (by have := HB4.out.size; omega) HG.out).mono ?_
                  rintro e w5 ⟨rfl, hb5⟩
                  have hz5 := hb5.size
                  have hb45 : Below w4.heap.size w4 w5 := hbd.trans (hb5.mono hzd)
                  refine ⟨_, rfl, hb45, ?_⟩
                  rw [e1]
                  go_simp
                  refine mix_look _ _ rfl rfl (fun w' _ => BigFrame.run_move _ rfl w') ?_
                  go_simp
                  refine mix_look _ _ rfl rfl (fun w' _ => BigFrame.run_move _ rfl w') ?_
                  go_simp
                  refine mix_look _ (.pointer (some ⟨w4a.heap.size, 0, none⟩)) rfl rfl (fun w' hw' => (by go_simp)) ?_
                  go_simp
                  refine mix_look _ (.int .i64 q.1) rfl rfl (fun w' hw' => (by obtain ⟨⟨a0, a1⟩, ⟨a2, a3⟩, a4, a5⟩ := HC.out w' hw'; go_simp)) ?_
                  go_simp
                  refine mix_look _ _ rfl rfl (fun w' _ => BigFrame.run_move _ rfl w') ?_
                  go_simp
                  refine mix_look _ (.int .i64 (q.1 * ((F 0).size : Int))) rfl rfl (fun w' hw' => (by go_simp)) ?_
                  go_simp
                  refine mix_look _ (.pointer (some ⟨w4a.heap.size, 1, none⟩)) rfl rfl (fun w' hw' => (by go_simp)) ?_
                  go_simp
                  refine mix_look _ (.int .i64 q.2) rfl rfl (fun w' hw' => (by obtain ⟨⟨a0, a1⟩, ⟨a2, a3⟩, a4, a5⟩ := HC.out w' hw'; go_simp)) ?_
                  go_simp
                  refine mix_look _ (.int .i64 (ixF F q : Nat)) rfl rfl (fun w' hw' => (by go_simp)) ?_
                  go_simp
                  refine mix_look _ (.pointer (some ⟨g, ixF F q, none⟩)) rfl rfl (fun w' hw' => (by go_simp)) ?_
                  go_simp
                  refine mix_look _ (.int .i64 (lfF F n (x, y) q)) rfl rfl (fun w' hw' => (by obtain ⟨⟨a0, a1⟩, ⟨a2, a3⟩, a4, a5⟩ := HC.out w' hw'; go_simp)) ?_
                  go_simp
                  refine mix_look _ _ rfl rfl (fun w' _ => BigFrame.run_move _ rfl w') ?_
                  go_simp
                  refine mix_look _ (.pointer (some ⟨w.heap.size, 0, none⟩)) rfl rfl (fun w' hw' => (by go_simp)) ?_
                  go_simp
                  refine mix_look _ (.int .i64 p.1) rfl rfl (fun w' hw' => (by obtain ⟨⟨a0, a1⟩, ⟨a2, a3⟩, a4, a5⟩ := HC.out w' hw'; go_simp)) ?_
                  go_simp
                  refine mix_look _ _ rfl rfl (fun w' _ => BigFrame.run_move _ rfl w') ?_
                  go_simp
                  refine mix_look _ (.int .i64 (p.1 * ((F 0).size : Int))) rfl rfl (fun w' hw' => (by go_simp)) ?_
                  go_simp
                  refine mix_look _ (.pointer (some ⟨w.heap.size, 1, none⟩)) rfl rfl (fun w' hw' => (by go_simp)) ?_
                  go_simp
                  refine mix_look _ (.int .i64 p.2) rfl rfl (fun w' hw' => (by obtain ⟨⟨a0, a1⟩, ⟨a2, a3⟩, a4, a5⟩ := HC.out w' hw'; go_simp)) ?_
                  go_simp
                  refine mix_look _ (.int .i64 (ixF F p : Nat)) rfl rfl (fun w' hw' => (by go_simp)) ?_
                  go_simp
                  refine mix_look _ (.pointer (some ⟨g, ixF F p, none⟩)) rfl rfl (fun w' hw' => (by go_simp)) ?_
                  go_simp
                  refine mix_look _ (.int .i64 ((k : Int) + 1)) rfl rfl (fun w' hw' => (by obtain ⟨⟨a0, a1⟩, ⟨a2, a3⟩, a4, a5⟩ := HC.out w' hw'; go_simp)) ?_
                  go_simp
                  refine mix_look _ (.int .i64 k) rfl rfl (fun w' hw' => (by go_simp)) ?_
                  go_simp
                  refine mix_look _ (.bool true) rfl rfl (fun w' hw' => (by go_simp)) ?_
                  go_simp
                  refine mix_look _ (.bool true) rfl rfl (fun w' hw' => (by go_simp)) ?_
                  go_simp
                  refine wpMix_nil ?_
                  have M7 := hide (M4.out.below hb45)
                  have T7 := hide (T4.out.below hb45 T4.out.lt)
                  have NQ7 := hide (NQ.out.below hb45 NQ.out.lt)
                  have HWN : Hid (wbG F n (x, y) k q (s ++ ltrB d) = wbG F n (x, y) K (r, c) ⟨#[]⟩) := by
                    have h := wbG_step (k := k) (s := s) HT.out hj4 HJ.out
                    rw [← HD.out, HQ.out] at h
                    exact h.symm.trans HW.out
                  clear he HC mbq zmq maq ziq mbp zmp map_ zip_
                  obtain ⟨p0, p1, pf, pl⟩ := M7.out.box
                  obtain ⟨q0, q1, qf, ql⟩ := NQ7.out
                  have hen := enc_dL hd4
                  have hms : ¬ 9223372036854775807 < s.size + (ltrB d).size := by rw [ltrB_size]; omega
                  have hs2 : (s ++ ltrB d).size + k ≤ 1000 := by rw [ByteArray.size_append, ltrB_size]; omega
                  go_wp2_with fail
                  go_roundg (k + 1)
                  case measure => omega
                  case rel => exact ⟨k, q, s ++ ltrB d, rfl, by omega, by omega, hs2, HOQ.out, HE.out, HWN.out, M7.out.move q.1 q.2, T7.out.other (by omega) _ _⟩
                · have HT : Hid (wbT F n (x, y) p j = false) := by show _ = _; rw [wbT, ← HD.out, HQ.out, HOQ.out, decide_eq_false (by rw [HL.out]; push_cast; omega)]; rfl
                  refine wp_region_mixd [(0, true), (1, true), (2, false), (3, true), (4, true), (5, true), (6, true), (7, true), (8, true), (9, true), (10, true), (11, true), (12, true), (13, true), (14, true), (15, true), (16, true), (17, true), (18, true), (19, true), (20, true), (21, true), (22, true), (23, true), (24, true), (25, true), (26, true)] (fun W => Below w4.heap.size w4 W) (by kernel_rfl) (by kernel_rfl) (by kernel_rfl) (by kernel_rfl) (Below.drew (Below.refl _ _)) ?_
                  intro wd hwd hbd
                  have hzd := hbd.size
                  refine mix_look _ _ rfl rfl (fun w' _ => BigFrame.run_move _ rfl w') ?_
                  go_simp
                  refine mix_look _ (.agg #[.int .i64 q.1, .int .i64 q.2]) rfl rfl (fun w' hw' => (by obtain ⟨⟨a0, a1⟩, ⟨a2, a3⟩, a4, a5⟩ := HC.out w' hw'; go_simp)) ?_
                  go_simp
                  refine mix_call _ 59 #[.slice (some ⟨blk, off, none⟩) n capF, .agg #[.int .i64 q.1, .int .i64 q.2]] rfl rfl (by go_simp) ?_
                  refine (isOpen_any F n q.1 q.2 lo hi _ _ (hv.below (B := w.heap.size) (HB4.out.trans (hbd.mono HB4.out.size)) hhi) (by have := HB4.out.size; omega) HG.out).mono ?_
                  rintro e w5 ⟨rfl, hb5⟩
                  have hz5 := hb5.size
                  have hb45 : Below w4.heap.size w4 w5 := hbd.trans (hb5.mono hzd)
                  refine ⟨_, rfl, hb45, ?_⟩
                  rw [e1]
                  go_simp
                  refine mix_look _ _ rfl rfl (fun w' _ => BigFrame.run_move _ rfl w') ?_
                  go_simp
                  refine mix_look _ _ rfl rfl (fun w' _ => BigFrame.run_move _ rfl w') ?_
                  go_simp
                  refine mix_look _ (.pointer (some ⟨w4a.heap.size, 0, none⟩)) rfl rfl (fun w' hw' => (by go_simp)) ?_
                  go_simp
                  refine mix_look _ (.int .i64 q.1) rfl rfl (fun w' hw' => (by obtain ⟨⟨a0, a1⟩, ⟨a2, a3⟩, a4, a5⟩ := HC.out w' hw'; go_simp)) ?_
                  go_simp
                  refine mix_look _ _ rfl rfl (fun w' _ => BigFrame.run_move _ rfl w') ?_
                  go_simp
                  refine mix_look _ (.int .i64 (q.1 * ((F 0).size : Int))) rfl rfl (fun w' hw' => (by go_simp)) ?_
                  go_simp
                  refine mix_look _ (.pointer (some ⟨w4a.heap.size, 1, none⟩)) rfl rfl (fun w' hw' => (by go_simp)) ?_
                  go_simp
                  refine mix_look _ (.int .i64 q.2) rfl rfl (fun w' hw' => (by obtain ⟨⟨a0, a1⟩, ⟨a2, a3⟩, a4, a5⟩ := HC.out w' hw'; go_simp)) ?_
                  go_simp
                  refine mix_look _ (.int .i64 (ixF F q : Nat)) rfl rfl (fun w' hw' => (by go_simp)) ?_
                  go_simp
                  refine mix_look _ (.pointer (some ⟨g, ixF F q, none⟩)) rfl rfl (fun w' hw' => (by go_simp)) ?_
                  go_simp
                  refine mix_look _ (.int .i64 (lfF F n (x, y) q)) rfl rfl (fun w' hw' => (by obtain ⟨⟨a0, a1⟩, ⟨a2, a3⟩, a4, a5⟩ := HC.out w' hw'; go_simp)) ?_
                  go_simp
                  refine mix_look _ _ rfl rfl (fun w' _ => BigFrame.run_move _ rfl w') ?_
                  go_simp
                  refine mix_look _ (.pointer (some ⟨w.heap.size, 0, none⟩)) rfl rfl (fun w' hw' => (by go_simp)) ?_
                  go_simp
                  refine mix_look _ (.int .i64 p.1) rfl rfl (fun w' hw' => (by obtain ⟨⟨a0, a1⟩, ⟨a2, a3⟩, a4, a5⟩ := HC.out w' hw'; go_simp)) ?_
                  go_simp
                  refine mix_look _ _ rfl rfl (fun w' _ => BigFrame.run_move _ rfl w') ?_
                  go_simp
                  refine mix_look _ (.int .i64 (p.1 * ((F 0).size : Int))) rfl rfl (fun w' hw' => (by go_simp)) ?_
                  go_simp
                  refine mix_look _ (.pointer (some ⟨w.heap.size, 1, none⟩)) rfl rfl (fun w' hw' => (by go_simp)) ?_
                  go_simp
                  refine mix_look _ (.int .i64 p.2) rfl rfl (fun w' hw' => (by obtain ⟨⟨a0, a1⟩, ⟨a2, a3⟩, a4, a5⟩ := HC.out w' hw'; go_simp)) ?_
                  go_simp
                  refine mix_look _ (.int .i64 (ixF F p : Nat)) rfl rfl (fun w' hw' => (by go_simp)) ?_
                  go_simp
                  refine mix_look _ (.pointer (some ⟨g, ixF F p, none⟩)) rfl rfl (fun w' hw' => (by go_simp)) ?_
                  go_simp
                  refine mix_look _ (.int .i64 ((k : Int) + 1)) rfl rfl (fun w' hw' => (by obtain ⟨⟨a0, a1⟩, ⟨a2, a3⟩, a4, a5⟩ := HC.out w' hw'; go_simp)) ?_
                  go_simp
                  refine mix_look _ (.int .i64 k) rfl rfl (fun w' hw' => (by go_simp)) ?_
                  go_simp
                  refine mix_look _ (.bool false) rfl rfl (fun w' hw' => (by go_simp)) ?_
                  go_simp
                  refine mix_look _ (.bool false) rfl rfl (fun w' hw' => (by go_simp)) ?_
                  go_simp
                  refine wpMix_nil ?_
                  have M5 := hide (M4.out.below hb45)
                  have T5 := hide (T4.out.below hb45 T4.out.lt)
                  have I5 : Hid (w5.heap[wo.heap.size]? = some (.stringIter eLs (j + 1))) := by
                    show _ = _
                    rw [hb45.block _ hls4]
                    exact I4.out
                  have hl5 : wo.heap.size < w5.heap.size := Nat.lt_of_lt_of_le hls4 hb45.size
                  have HJN : Hid (∀ i, i < j + 1 → wbT F n (x, y) p i = false) := fun i hi => by
                    rcases Nat.lt_succ_iff_lt_or_eq.1 hi with h | rfl
                    · exact HJ.out i h
                    · exact HT.out
                  clear he HC mbq zmq maq ziq mbp zmp map_ zip_
                  go_wp2_with fail
                  go_roundg (4 - j)
                  case measure => omega
                  case rel => exact ⟨j + 1, rfl, by omega, by omega, HJN.out, M5.out, T5.out, I5.out, hl5⟩
            · exact (wb_some HOB.out HP.out HL.out (fun i hi => HJ.out i (by omega))).elim
        · clear hne
          go_wp2_with fail
          clear h2
          clear p0 p1 pf pl q0 q1 qf ql
          have hgo := hgs
          have hwo : w.heap.size + 1 < wo.heap.size := HT1.out.lt
          go_loopg [10] 5 (fun gi sv wr => ∃ j : Nat, sv = .string s ∧ j ≤ 4 ∧ 4 - j < gi ∧ Hid (∀ i, i < j → wbT F n (x, y) p i = false) ∧ Hid (WMem w wr g N N (stF F n (x, y)) p) ∧ Hid (Bx2 wr (w.heap.size + 1) x y) ∧ Hid (wr.heap[wo.heap.size]? = some (.stringIter eLs j)) ∧ wo.heap.size < wr.heap.size)
          case atStart => exact ⟨0, rfl, by omega, by omega, fun i hi => absurd hi (Nat.not_lt_zero _), HM.out.below ((Below.refl _ _).alloc (Nat.le_refl _) _), HT1.out.below ((Below.refl _ _).alloc (Nat.le_refl _) _) HT1.out.lt, World.iter_heap _ _ _, by simp [World.iter]⟩
          case round =>
            obtain ⟨j, rfl, hj, hgi, HJ, HMr, HTr, HIT, hil⟩ := hrel
            by_cases hj4 : j < 4
            · have hnx := fun ty => run_next_e (P := Tryd.prog) wr wo.heap.size j ty HIT.out hj4
              obtain ⟨W1, hW1⟩ : ∃ W1, W1 = setIter wr wo.heap.size eLs (j + 1) := ⟨_, rfl⟩
              rw [← hW1] at hnx
              have M1 : Hid (WMem w W1 g N N (stF F n (x, y)) p) := by
                show WMem _ _ _ _ _ _ _
                rw [hW1]
                exact HMr.out.keep (setIter_other (by omega) _ _) (setIter_other (by omega) _ _) (by rw [setIter_size]; exact Nat.le_refl _) (setIter_below HMr.out.bel (by omega) _ _)
              have T1 : Hid (Bx2 W1 (w.heap.size + 1) x y) := by
                show Bx2 _ _ _ _
                rw [hW1]
                exact HTr.out.keep (setIter_other (by omega) _ _) (by rw [setIter_size]; exact HTr.out.lt)
              have I1 : Hid (W1.heap[wo.heap.size]? = some (.stringIter eLs (j + 1))) := by show _ = _; rw [hW1]; exact setIter_at hil _ _
              have hil1 : wo.heap.size < W1.heap.size := by rw [hW1, setIter_size]; exact hil
              clear hW1
              obtain ⟨d, hd⟩ : ∃ d, d = ordD j := ⟨_, rfl⟩
              have hd4 : d < 4 := by rw [hd]; exact ordD_lt hj4
              rw [← hd] at hnx
              have HD := hide hd
              clear hd
              obtain ⟨q, hq⟩ : ∃ q, stp p d = q := ⟨_, rfl⟩
              have HQ := hide hq
              clear hq
              obtain ⟨b1, b2, b3, b4⟩ := opP_bd HP.out
              have dw := dL_wrap d
              have hdw : IntKind.wrap .u8 (dL d) = dL d := dw
              obtain ⟨p0, p1, pf, pl⟩ := M1.out.box
              have hbr := M1.out.bel
              have hzr := hbr.size
              go_wp2_with fail
              refine (stepTo_p p q d _ HQ.out hd4 (by omega) (by omega) (by omega) (by omega)).mono ?_
              rintro e w4a ⟨rfl, hb4a⟩
              have hz4a := hb4a.size
              have M4a := hide (M1.out.below hb4a)
              have T4a := hide (T1.out.below hb4a T1.out.lt)
              have I4a : Hid (w4a.heap[wo.heap.size]? = some (.stringIter eLs (j + 1))) := by
                show _ = _
                rw [hb4a.block _ hil1]
                exact I1.out
              have hl4a : wo.heap.size < w4a.heap.size := by omega
              clear p0 p1 pf pl hnx
              go_wp2_with fail
              obtain ⟨w4, hw4⟩ : ∃ W, W = w4a.alloc (.cells #[.int .i64 q.1, .int .i64 q.2] 38) := ⟨_, rfl⟩
              rw [← hw4]
              have NQ : Hid (Bx2 w4 w4a.heap.size q.1 q.2) := by show Bx2 _ _ _ _; rw [hw4]; exact Bx2.new _ _ _
              have M4 : Hid (WMem w w4 g N N (stF F n (x, y)) p) := by show WMem _ _ _ _ _ _ _; rw [hw4]; exact M4a.out.below ((Below.refl _ _).alloc (Nat.le_refl _) _)
              have T4 : Hid (Bx2 w4 (w.heap.size + 1) x y) := by show Bx2 _ _ _ _; rw [hw4]; exact T4a.out.below ((Below.refl _ _).alloc (Nat.le_refl _) _) T4a.out.lt
              have I4 : Hid (w4.heap[wo.heap.size]? = some (.stringIter eLs (j + 1))) := by
                show _ = _
                rw [hw4, ((Below.refl w4a.heap.size w4a).alloc (Nat.le_refl _) _).block _ hl4a]
                exact I4a.out
              have hz4 : w4a.heap.size < w4.heap.size := by rw [hw4]; simp
              clear hw4
              have HB4 := hide M4.out.bel
              have hls4 : wo.heap.size < w4.heap.size := by omega
              have hg4 : g < w4.heap.size := M4.out.gs
              have hs4 : w.heap.size < w4.heap.size := M4.out.box.lt
              have ng4 : w.heap.size < g := M4.out.gl
              have nq4 : w4a.heap.size ≠ w.heap.size := by omega
              clear hbr M4a T4a I4a dw hdw
              cases e1 : opB F n q.1 q.2 with
              | false =>
                have HC : Hid (∀ W, Below w4.heap.size w4 W → (W.cell? ⟨w4a.heap.size, 0, none⟩ = some (.int .i64 q.1) ∧ W.cell? ⟨w4a.heap.size, 1, none⟩ = some (.int .i64 q.2))) := fun W hW => ⟨(NQ.out.below hW NQ.out.lt).c0, (NQ.out.below hW NQ.out.lt).c1⟩
                have HT : Hid (wbT F n (x, y) p j = false) := by show _ = _; rw [wbT, ← HD.out, HQ.out, show opP F n q = false from e1]; rfl
                refine wp_region_mixd [(0, true), (1, true), (2, false), (3, true), (4, true), (5, true), (6, true), (7, true), (8, true), (9, true), (10, true), (11, true), (12, true), (13, true), (14, true), (15, true), (16, true), (17, true), (18, true), (19, true), (20, true), (21, true), (22, true), (23, true), (24, true), (25, true), (26, true)] (fun W => Below w4.heap.size w4 W) (by kernel_rfl) (by kernel_rfl) (by kernel_rfl) (by kernel_rfl) (Below.drew (Below.refl _ _)) ?_
                intro wd hwd hbd
                have hzd := hbd.size
                refine mix_look _ _ rfl rfl (fun w' _ => BigFrame.run_move _ rfl w') ?_
                go_simp
                refine mix_look _ (.agg #[.int .i64 q.1, .int .i64 q.2]) rfl rfl (fun w' hw' => (by obtain ⟨a0, a1⟩ := HC.out w' hw'; go_simp)) ?_
                go_simp
                refine mix_call _ 59 #[.slice (some ⟨blk, off, none⟩) n capF, .agg #[.int .i64 q.1, .int .i64 q.2]] rfl rfl (by go_simp) ?_
                refine (isOpen_any F n q.1 q.2 lo hi _ _ (hv.below (B := w.heap.size) (HB4.out.trans (hbd.mono HB4.out.size)) hhi) (by have := HB4.out.size; omega) HG.out).mono ?_
                rintro e w5 ⟨rfl, hb5⟩
                have hz5 := hb5.size
                have hb45 : Below w4.heap.size w4 w5 := hbd.trans (hb5.mono hzd)
                refine ⟨_, rfl, hb45, ?_⟩
                rw [e1]
                go_simp
                refine mix_look _ _ rfl rfl (fun w' _ => BigFrame.run_move _ rfl w') ?_
                go_simp
                refine mix_skip _ rfl rfl ?_
                go_simp
                refine mix_skip _ rfl rfl ?_
                go_simp
                refine mix_skip _ rfl rfl ?_
                go_simp
                refine mix_skip _ rfl rfl ?_
                go_simp
                refine mix_skip _ rfl rfl ?_
                go_simp
                refine mix_skip _ rfl rfl ?_
                go_simp
                refine mix_skip _ rfl rfl ?_
                go_simp
                refine mix_skip _ rfl rfl ?_
                go_simp
                refine mix_skip _ rfl rfl ?_
                go_simp
                refine mix_skip _ rfl rfl ?_
                go_simp
                refine mix_skip _ rfl rfl ?_
                go_simp
                refine mix_skip _ rfl rfl ?_
                go_simp
                refine mix_skip _ rfl rfl ?_
                go_simp
                refine mix_skip _ rfl rfl ?_
                go_simp
                refine mix_skip _ rfl rfl ?_
                go_simp
                refine mix_skip _ rfl rfl ?_
                go_simp
                refine mix_skip _ rfl rfl ?_
                go_simp
                refine mix_skip _ rfl rfl ?_
                go_simp
                refine mix_skip _ rfl rfl ?_
                go_simp
                refine mix_skip _ rfl rfl ?_
                go_simp
                refine mix_skip _ rfl rfl ?_
                go_simp
                refine mix_skip _ rfl rfl ?_
                go_simp
                refine mix_look _ (.bool false) rfl rfl (fun w' hw' => (by go_simp)) ?_
                go_simp
                refine wpMix_nil ?_
                have M5 := hide (M4.out.below hb45)
                have T5 := hide (T4.out.below hb45 T4.out.lt)
                have I5 : Hid (w5.heap[wo.heap.size]? = some (.stringIter eLs (j + 1))) := by
                  show _ = _
                  rw [hb45.block _ hls4]
                  exact I4.out
                have hl5 : wo.heap.size < w5.heap.size := Nat.lt_of_lt_of_le hls4 hb45.size
                have HJN : Hid (∀ i, i < j + 1 → wbT F n (x, y) p i = false) := fun i hi => by
                  rcases Nat.lt_succ_iff_lt_or_eq.1 hi with h | rfl
                  · exact HJ.out i h
                  · exact HT.out
                clear HC
                go_wp2_with fail
                go_roundg (4 - j)
                case measure => omega
                case rel => exact ⟨j + 1, rfl, by omega, by omega, HJN.out, M5.out, T5.out, I5.out, hl5⟩
              | true =>
                have HOQ : Hid (opP F n q = true) := e1
                have hixq := HIX.out _ HOQ.out
                have hixp := HIX.out _ HP.out
                have HC : Hid (∀ W, Below w4.heap.size w4 W → (W.cell? ⟨w4a.heap.size, 0, none⟩ = some (.int .i64 q.1) ∧ W.cell? ⟨w4a.heap.size, 1, none⟩ = some (.int .i64 q.2)) ∧ (W.cell? ⟨w.heap.size, 0, none⟩ = some (.int .i64 p.1) ∧ W.cell? ⟨w.heap.size, 1, none⟩ = some (.int .i64 p.2)) ∧ W.cell? ⟨g, ixF F q, none⟩ = some (.int .i64 (lfF F n (x, y) q)) ∧ W.cell? ⟨g, ixF F p, none⟩ = some (.int .i64 ((k : Int) + 1))) := fun W hW => by
                  have m := M4.out.below hW
                  have l := HL.out
                  refine ⟨⟨(NQ.out.below hW NQ.out.lt).c0, (NQ.out.below hW NQ.out.lt).c1⟩, ⟨m.box.c0, m.box.c1⟩, m.num (HIX.out _ HOQ.out), ?_⟩
                  have h := m.num (HIX.out _ HP.out)
                  rw [show stF F n (x, y) (ixF F p) = (k : Int) + 1 by have := HL.out; simp only [lfF] at this; omega] at h
                  exact h
                have z1 : IntKind.i64.wrap (k : Int) = (k : Int) := IntWalk.i64_in _ (by omega)
                have mbq := mulP_bd HOQ.out g2 g4
                have zmq : IntKind.i64.wrap (q.1 * ((F 0).size : Int)) = q.1 * ((F 0).size : Int) := IntWalk.i64_in _ (by omega)
                have maq := ix_cast HOQ.out
                have ziq : IntKind.i64.wrap ((ixF F q : Nat) : Int) = ((ixF F q : Nat) : Int) := IntWalk.i64_in _ (by omega)
                have mbp := mulP_bd HP.out g2 g4
                have zmp : IntKind.i64.wrap (p.1 * ((F 0).size : Int)) = p.1 * ((F 0).size : Int) := IntWalk.i64_in _ (by omega)
                have map_ := ix_cast HP.out
                have zip_ : IntKind.i64.wrap ((ixF F p : Nat) : Int) = ((ixF F p : Nat) : Int) := IntWalk.i64_in _ (by omega)
                by_cases he : lfF F n (x, y) q = (k : Int)
                · have HE := hide he
                  have HT : Hid (wbT F n (x, y) p j = true) := by show _ = _; rw [wbT, ← HD.out, HQ.out, HOQ.out, decide_eq_true (by rw [HL.out, he]; push_cast; omega)]; rfl
                  refine wp_region_mixd [(0, true), (1, true), (2, false), (3, true), (4, true), (5, true), (6, true), (7, true), (8, true), (9, true), (10, true), (11, true), (12, true), (13, true), (14, true), (15, true), (16, true), (17, true), (18, true), (19, true), (20, true), (21, true), (22, true), (23, true), (24, true), (25, true), (26, true)] (fun W => Below w4.heap.size w4 W) (by kernel_rfl) (by kernel_rfl) (by kernel_rfl) (by kernel_rfl) (Below.drew (Below.refl _ _)) ?_
                  intro wd hwd hbd
                  have hzd := hbd.size
                  refine mix_look _ _ rfl rfl (fun w' _ => BigFrame.run_move _ rfl w') ?_
                  go_simp
                  refine mix_look _ (.agg #[.int .i64 q.1, .int .i64 q.2]) rfl rfl (fun w' hw' => (by obtain ⟨⟨a0, a1⟩, ⟨a2, a3⟩, a4, a5⟩ := HC.out w' hw'; go_simp)) ?_
                  go_simp
                  refine mix_call _ 59 #[.slice (some ⟨blk, off, none⟩) n capF, .agg #[.int .i64 q.1, .int .i64 q.2]] rfl rfl (by go_simp) ?_
                  refine (isOpen_any F n q.1 q.2 lo hi _ _ (hv.below (B := w.heap.size) (HB4.out.trans (hbd.mono HB4.out.size)) hhi) (by have := HB4.out.size; omega) HG.out).mono ?_
                  rintro e w5 ⟨rfl, hb5⟩
                  have hz5 := hb5.size
                  have hb45 : Below w4.heap.size w4 w5 := hbd.trans (hb5.mono hzd)
                  refine ⟨_, rfl, hb45, ?_⟩
                  rw [e1]
                  go_simp
                  refine mix_look _ _ rfl rfl (fun w' _ => BigFrame.run_move _ rfl w') ?_
                  go_simp
                  refine mix_look _ _ rfl rfl (fun w' _ => BigFrame.run_move _ rfl w') ?_
                  go_simp
                  refine mix_look _ (.pointer (some ⟨w4a.heap.size, 0, none⟩)) rfl rfl (fun w' hw' => (by go_simp)) ?_
                  go_simp
                  refine mix_look _ (.int .i64 q.1) rfl rfl (fun w' hw' => (by obtain ⟨⟨a0, a1⟩, ⟨a2, a3⟩, a4, a5⟩ := HC.out w' hw'; go_simp)) ?_
                  go_simp
                  refine mix_look _ _ rfl rfl (fun w' _ => BigFrame.run_move _ rfl w') ?_
                  go_simp
                  refine mix_look _ (.int .i64 (q.1 * ((F 0).size : Int))) rfl rfl (fun w' hw' => (by go_simp)) ?_
                  go_simp
                  refine mix_look _ (.pointer (some ⟨w4a.heap.size, 1, none⟩)) rfl rfl (fun w' hw' => (by go_simp)) ?_
                  go_simp
                  refine mix_look _ (.int .i64 q.2) rfl rfl (fun w' hw' => (by obtain ⟨⟨a0, a1⟩, ⟨a2, a3⟩, a4, a5⟩ := HC.out w' hw'; go_simp)) ?_
                  go_simp
                  refine mix_look _ (.int .i64 (ixF F q : Nat)) rfl rfl (fun w' hw' => (by go_simp)) ?_
                  go_simp
                  refine mix_look _ (.pointer (some ⟨g, ixF F q, none⟩)) rfl rfl (fun w' hw' => (by go_simp)) ?_
                  go_simp
                  refine mix_look _ (.int .i64 (lfF F n (x, y) q)) rfl rfl (fun w' hw' => (by obtain ⟨⟨a0, a1⟩, ⟨a2, a3⟩, a4, a5⟩ := HC.out w' hw'; go_simp)) ?_
                  go_simp
                  refine mix_look _ _ rfl rfl (fun w' _ => BigFrame.run_move _ rfl w') ?_
                  go_simp
                  refine mix_look _ (.pointer (some ⟨w.heap.size, 0, none⟩)) rfl rfl (fun w' hw' => (by go_simp)) ?_
                  go_simp
                  refine mix_look _ (.int .i64 p.1) rfl rfl (fun w' hw' => (by obtain ⟨⟨a0, a1⟩, ⟨a2, a3⟩, a4, a5⟩ := HC.out w' hw'; go_simp)) ?_
                  go_simp
                  refine mix_look _ _ rfl rfl (fun w' _ => BigFrame.run_move _ rfl w') ?_
                  go_simp
                  refine mix_look _ (.int .i64 (p.1 * ((F 0).size : Int))) rfl rfl (fun w' hw' => (by go_simp)) ?_
                  go_simp
                  refine mix_look _ (.pointer (some ⟨w.heap.size, 1, none⟩)) rfl rfl (fun w' hw' => (by go_simp)) ?_
                  go_simp
                  refine mix_look _ (.int .i64 p.2) rfl rfl (fun w' hw' => (by obtain ⟨⟨a0, a1⟩, ⟨a2, a3⟩, a4, a5⟩ := HC.out w' hw'; go_simp)) ?_
                  go_simp
                  refine mix_look _ (.int .i64 (ixF F p : Nat)) rfl rfl (fun w' hw' => (by go_simp)) ?_
                  go_simp
                  refine mix_look _ (.pointer (some ⟨g, ixF F p, none⟩)) rfl rfl (fun w' hw' => (by go_simp)) ?_
                  go_simp
                  refine mix_look _ (.int .i64 ((k : Int) + 1)) rfl rfl (fun w' hw' => (by obtain ⟨⟨a0, a1⟩, ⟨a2, a3⟩, a4, a5⟩ := HC.out w' hw'; go_simp)) ?_
                  go_simp
                  refine mix_look _ (.int .i64 k) rfl rfl (fun w' hw' => (by go_simp)) ?_
                  go_simp
                  refine mix_look _ (.bool true) rfl rfl (fun w' hw' => (by go_simp)) ?_
                  go_simp
                  refine mix_look _ (.bool true) rfl rfl (fun w' hw' => (by go_simp)) ?_
                  go_simp
                  refine wpMix_nil ?_
                  have M7 := hide (M4.out.below hb45)
                  have T7 := hide (T4.out.below hb45 T4.out.lt)
                  have NQ7 := hide (NQ.out.below hb45 NQ.out.lt)
                  have HWN : Hid (wbG F n (x, y) k q (s ++ ltrB d) = wbG F n (x, y) K (r, c) ⟨#[]⟩) := by
                    have h := wbG_step (k := k) (s := s) HT.out hj4 HJ.out
                    rw [← HD.out, HQ.out] at h
                    exact h.symm.trans HW.out
                  clear he HC mbq zmq maq ziq mbp zmp map_ zip_
                  obtain ⟨p0, p1, pf, pl⟩ := M7.out.box
                  obtain ⟨q0, q1, qf, ql⟩ := NQ7.out
                  have hen := enc_dL hd4
                  have hms : ¬ 9223372036854775807 < s.size + (ltrB d).size := by rw [ltrB_size]; omega
                  have hs2 : (s ++ ltrB d).size + k ≤ 1000 := by rw [ByteArray.size_append, ltrB_size]; omega
                  go_wp2_with fail
                  go_roundg (k + 1)
                  case measure => omega
                  case rel => exact ⟨k, q, s ++ ltrB d, rfl, by omega, by omega, hs2, HOQ.out, HE.out, HWN.out, M7.out.move q.1 q.2, T7.out.other (by omega) _ _⟩
                · have HT : Hid (wbT F n (x, y) p j = false) := by show _ = _; rw [wbT, ← HD.out, HQ.out, HOQ.out, decide_eq_false (by rw [HL.out]; push_cast; omega)]; rfl
                  refine wp_region_mixd [(0, true), (1, true), (2, false), (3, true), (4, true), (5, true), (6, true), (7, true), (8, true), (9, true), (10, true), (11, true), (12, true), (13, true), (14, true), (15, true), (16, true), (17, true), (18, true), (19, true), (20, true), (21, true), (22, true), (23, true), (24, true), (25, true), (26, true)] (fun W => Below w4.heap.size w4 W) (by kernel_rfl) (by kernel_rfl) (by kernel_rfl) (by kernel_rfl) (Below.drew (Below.refl _ _)) ?_
                  intro wd hwd hbd
                  have hzd := hbd.size
                  refine mix_look _ _ rfl rfl (fun w' _ => BigFrame.run_move _ rfl w') ?_
                  go_simp
                  refine mix_look _ (.agg #[.int .i64 q.1, .int .i64 q.2]) rfl rfl (fun w' hw' => (by obtain ⟨⟨a0, a1⟩, ⟨a2, a3⟩, a4, a5⟩ := HC.out w' hw'; go_simp)) ?_
                  go_simp
                  refine mix_call _ 59 #[.slice (some ⟨blk, off, none⟩) n capF, .agg #[.int .i64 q.1, .int .i64 q.2]] rfl rfl (by go_simp) ?_
                  refine (isOpen_any F n q.1 q.2 lo hi _ _ (hv.below (B := w.heap.size) (HB4.out.trans (hbd.mono HB4.out.size)) hhi) (by have := HB4.out.size; omega) HG.out).mono ?_
                  rintro e w5 ⟨rfl, hb5⟩
                  have hz5 := hb5.size
                  have hb45 : Below w4.heap.size w4 w5 := hbd.trans (hb5.mono hzd)
                  refine ⟨_, rfl, hb45, ?_⟩
                  rw [e1]
                  go_simp
                  refine mix_look _ _ rfl rfl (fun w' _ => BigFrame.run_move _ rfl w') ?_
                  go_simp
                  refine mix_look _ _ rfl rfl (fun w' _ => BigFrame.run_move _ rfl w') ?_
                  go_simp
                  refine mix_look _ (.pointer (some ⟨w4a.heap.size, 0, none⟩)) rfl rfl (fun w' hw' => (by go_simp)) ?_
                  go_simp
                  refine mix_look _ (.int .i64 q.1) rfl rfl (fun w' hw' => (by obtain ⟨⟨a0, a1⟩, ⟨a2, a3⟩, a4, a5⟩ := HC.out w' hw'; go_simp)) ?_
                  go_simp
                  refine mix_look _ _ rfl rfl (fun w' _ => BigFrame.run_move _ rfl w') ?_
                  go_simp
                  refine mix_look _ (.int .i64 (q.1 * ((F 0).size : Int))) rfl rfl (fun w' hw' => (by go_simp)) ?_
                  go_simp
                  refine mix_look _ (.pointer (some ⟨w4a.heap.size, 1, none⟩)) rfl rfl (fun w' hw' => (by go_simp)) ?_
                  go_simp
                  refine mix_look _ (.int .i64 q.2) rfl rfl (fun w' hw' => (by obtain ⟨⟨a0, a1⟩, ⟨a2, a3⟩, a4, a5⟩ := HC.out w' hw'; go_simp)) ?_
                  go_simp
                  refine mix_look _ (.int .i64 (ixF F q : Nat)) rfl rfl (fun w' hw' => (by go_simp)) ?_
                  go_simp
                  refine mix_look _ (.pointer (some ⟨g, ixF F q, none⟩)) rfl rfl (fun w' hw' => (by go_simp)) ?_
                  go_simp
                  refine mix_look _ (.int .i64 (lfF F n (x, y) q)) rfl rfl (fun w' hw' => (by obtain ⟨⟨a0, a1⟩, ⟨a2, a3⟩, a4, a5⟩ := HC.out w' hw'; go_simp)) ?_
                  go_simp
                  refine mix_look _ _ rfl rfl (fun w' _ => BigFrame.run_move _ rfl w') ?_
                  go_simp
                  refine mix_look _ (.pointer (some ⟨w.heap.size, 0, none⟩)) rfl rfl (fun w' hw' => (by go_simp)) ?_
                  go_simp
                  refine mix_look _ (.int .i64 p.1) rfl rfl (fun w' hw' => (by obtain ⟨⟨a0, a1⟩, ⟨a2, a3⟩, a4, a5⟩ := HC.out w' hw'; go_simp)) ?_
                  go_simp
                  refine mix_look _ _ rfl rfl (fun w' _ => BigFrame.run_move _ rfl w') ?_
                  go_simp
                  refine mix_look _ (.int .i64 (p.1 * ((F 0).size : Int))) rfl rfl (fun w' hw' => (by go_simp)) ?_
                  go_simp
                  refine mix_look _ (.pointer (some ⟨w.heap.size, 1, none⟩)) rfl rfl (fun w' hw' => (by go_simp)) ?_
                  go_simp
                  refine mix_look _ (.int .i64 p.2) rfl rfl (fun w' hw' => (by obtain ⟨⟨a0, a1⟩, ⟨a2, a3⟩, a4, a5⟩ := HC.out w' hw'; go_simp)) ?_
                  go_simp
                  refine mix_look _ (.int .i64 (ixF F p : Nat)) rfl rfl (fun w' hw' => (by go_simp)) ?_
                  go_simp
                  refine mix_look _ (.pointer (some ⟨g, ixF F p, none⟩)) rfl rfl (fun w' hw' => (by go_simp)) ?_
                  go_simp
                  refine mix_look _ (.int .i64 ((k : Int) + 1)) rfl rfl (fun w' hw' => (by obtain ⟨⟨a0, a1⟩, ⟨a2, a3⟩, a4, a5⟩ := HC.out w' hw'; go_simp)) ?_
                  go_simp
                  refine mix_look _ (.int .i64 k) rfl rfl (fun w' hw' => (by go_simp)) ?_
                  go_simp
                  refine mix_look _ (.bool false) rfl rfl (fun w' hw' => (by go_simp)) ?_
                  go_simp
                  refine mix_look _ (.bool false) rfl rfl (fun w' hw' => (by go_simp)) ?_
                  go_simp
                  refine wpMix_nil ?_
                  have M5 := hide (M4.out.below hb45)
                  have T5 := hide (T4.out.below hb45 T4.out.lt)
                  have I5 : Hid (w5.heap[wo.heap.size]? = some (.stringIter eLs (j + 1))) := by
                    show _ = _
                    rw [hb45.block _ hls4]
                    exact I4.out
                  have hl5 : wo.heap.size < w5.heap.size := Nat.lt_of_lt_of_le hls4 hb45.size
                  have HJN : Hid (∀ i, i < j + 1 → wbT F n (x, y) p i = false) := fun i hi => by
                    rcases Nat.lt_succ_iff_lt_or_eq.1 hi with h | rfl
                    · exact HJ.out i h
                    · exact HT.out
                  clear he HC mbq zmq maq ziq mbp zmp map_ zip_
                  go_wp2_with fail
                  go_roundg (4 - j)
                  case measure => omega
                  case rel => exact ⟨j + 1, rfl, by omega, by omega, HJN.out, M5.out, T5.out, I5.out, hl5⟩
            · exact (wb_some HOB.out HP.out HL.out (fun i hi => HJ.out i (by omega))).elim

end Go.Proofs.YtpckhpkbdanjoaaDoor
