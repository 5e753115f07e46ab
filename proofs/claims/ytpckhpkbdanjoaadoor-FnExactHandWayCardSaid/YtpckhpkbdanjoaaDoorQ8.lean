/-
  Texts of this proof, one behind the other (part 8).
-/
import Derived.Test.YtpckhpkbdanjoaaDoorQ7
/-
  Walks: the way back: the reference's.-/
namespace Go.Proofs.YtpckhpkbdanjoaaDoor
set_option linter.unusedVariables false
set_option linter.unusedSimpArgs false
open Go.RowKit Go.Shelf Go.Deep

def wbOk (F : Nat → ByteArray) (n : Nat) (r c x y : Int) : Bool := (sfOk F n r c && opB F n x y) && decide (0 ≤ lfF F n (x, y) (r, c))
def wbS (F : Nat → ByteArray) (n : Nat) (r c x y : Int) : ByteArray := if wbOk F n r c x y = true then wbG F n (x, y) (lfF F n (x, y) (r, c)).toNat (r, c) ⟨#[]⟩ else ⟨#[]⟩
/-- What the call hands back. -/
def WbRes (F : Nat → ByteArray) (n : Nat) (r c x y : Int) (w : World) (e : Ending) (w' : World) : Prop := e = .returned (.tuple #[.string (wbS F n r c x y), .bool (wbOk F n r c x y)]) ∧ Below w.heap.size w w'
theorem wb_nil {F : Nat → ByteArray} {n : Nat} {r c x y : Int} {w w' : World} (h : wbOk F n r c x y = false) (hb : Below w.heap.size w w') : WbRes F n r c x y w (.returned (.tuple #[.string ⟨#[]⟩, .bool false])) w' :=
  ⟨by rw [wbS, h]; rfl, hb⟩
theorem wb_at {F : Nat → ByteArray} {n K : Nat} {r c x y : Int} {s : ByteArray} {w w' : World} (h : (sfOk F n r c && opB F n x y) = true) (hK : lfF F n (x, y) (r, c) = K) (hs : s = wbG F n (x, y) K (r, c) ⟨#[]⟩) (hb : Below w.heap.size w w') : WbRes F n r c x y w (.returned (.tuple #[.string s, .bool true])) w' := by
  have h1 : wbOk F n r c x y = true := by rw [wbOk, h, hK, decide_eq_true (Int.natCast_nonneg K)]; rfl
  exact ⟨by rw [wbS, if_pos h1, hK, hs, h1]; rfl, hb⟩
theorem wb_no {F : Nat → ByteArray} {n : Nat} {r c x y : Int} (h : lfF F n (x, y) (r, c) < 0) : wbOk F n r c x y = false := by
  rw [wbOk, decide_eq_false (by omega)]
  simp
/-- Memory while the way is sought: the numbers in block g, the place in the first box. -/
structure WMem (w0 w : World) (g N co : Nat) (o : Nat → Int) (p : Int × Int) : Prop where
  out : OwnL w g (g + 1) 3 1 (.slice (some ⟨g, 0, none⟩) N co) N N (fun i => .int .i64 (o i))
  box : Bx2 w w0.heap.size p.1 p.2
  gl : w0.heap.size < g
  gs : g < w.heap.size
  bel : Below w0.heap.size w0 w
section
variable {w0 w w' : World} {g N co : Nat} {o : Nat → Int} {p : Int × Int}
theorem WMem.keep (h : WMem w0 w g N co o p) (h1 : w'.heap[g]? = w.heap[g]?) (h2 : w'.heap[w0.heap.size]? = w.heap[w0.heap.size]?) (hs : w.heap.size ≤ w'.heap.size) (hb : Below w0.heap.size w0 w') : WMem w0 w' g N co o p :=
  ⟨h.out.keep1 h1, h.box.keep h2 (Nat.lt_of_lt_of_le h.box.lt hs), h.gl, Nat.lt_of_lt_of_le h.gs hs, hb⟩
theorem WMem.below (h : WMem w0 w g N co o p) (hb : Below w.heap.size w w') : WMem w0 w' g N co o p :=
  h.keep (hb.block g h.gs) (hb.block _ h.box.lt) hb.size (h.bel.trans (hb.mono h.bel.size))
theorem WMem.num (h : WMem w0 w g N co o p) {i : Nat} (hi : i < N) : w.cell? ⟨g, i, none⟩ = some (.int .i64 (o i)) :=
  (h.out.cell (by omega) (o := i) (by omega)).2.2 hi
theorem WMem.move (h : WMem w0 w g N co o p) (u v : Int) : WMem w0 ((w.setCell ⟨w0.heap.size, 0, none⟩ (.int .i64 u)).setCell ⟨w0.heap.size, 1, none⟩ (.int .i64 v)) g N co o (u, v) :=
  ⟨h.out.keep1 ((blk_setCell_other _ _ _ _ (by have := h.gl; show g ≠ w0.heap.size; omega)).trans (blk_setCell_other _ _ _ _ (by have := h.gl; show g ≠ w0.heap.size; omega))), h.box.set u v, h.gl, by simp [World.setCell]; exact h.gs, (h.bel.setCell (Nat.le_refl _) _).setCell (Nat.le_refl _) _⟩
theorem mix_skipF {P : Program} {ops : Array Oper} {C : World → Prop} {Q : Act → World → Prop} {k : Nat} {r : List (Nat × Bool)} {a : Act} {w : World} (o : Oper) (hk : ops[k]? = some o) (hw : Region.wanted o (yielded ops a.tmps) = false) (hC : C w)
    (h : wpMix P ops C Q r (a.put o.dst undef) w) : wpMix P ops C Q ((k, false) :: r) a w := by
  show eOp P ops k _ a w
  unfold eOp
  simp only [hk, hw]
  exact ⟨hC, h⟩
theorem four_at {b j : Nat} (h : w.heap[b]? = some (.cells #[.int .i64 1, .int .i64 0, .int .i64 2, .int .i64 3] 3 (0, 0))) (hj : j < 4) : w.cell? ⟨b, j, none⟩ = some (.int .i64 (ordD j : Nat)) := by
  have h4 : j = 0 ∨ j = 1 ∨ j = 2 ∨ j = 3 := by omega
  rcases h4 with rfl | rfl | rfl | rfl <;> simp [World.cell?, h, ordD]
end
theorem nesw_one {d : Nat} (h : d < 4) : (⟨#[110, 101, 115, 119]⟩ : ByteArray).extract d (d + 1) = ltrB d := by
  have h4 : d = 0 ∨ d = 1 ∨ d = 2 ∨ d = 3 := by omega
  rcases h4 with rfl | rfl | rfl | rfl <;> rfl
set_option maxRecDepth 100000 in
set_option maxHeartbeats 3200000 in
theorem seWay_any (F : Nat → ByteArray) (n : Nat) (r c x y : Int) (lo hi : Nat) (v : Value) (w : World) (hv : Sl w lo hi 1 v n (sC F)) (hhi : hi ≤ w.heap.size) (hs1 : sfOk F n r c = true) (hs2 : opB F n x y = true) :
    Calls Tryd.prog 76 #[v, .agg #[.int .i64 r, .int .i64 c], .agg #[.int .i64 x, .int .i64 y]] w (WbRes F n r c x y w) := by
  obtain ⟨A, capF, rfl, hcap, hA⟩ := hv.open_
  clear hA
  have HOK : Hid ((sfOk F n r c && opB F n x y) = true) := by show _ = _; rw [hs1, hs2]; rfl
  have HGO : Hid (flB F n = true ∧ opB F n r c = true) := by
    show _ ∧ _
    simpa only [sfOk, Bool.and_eq_true] using hs1
  have HG : Hid (flB F n = true) := HGO.out.1
  have HOA : Hid (opP F n (r, c) = true) := HGO.out.2
  have HOB : Hid (opP F n (x, y) = true) := hs2
  clear hs1 hs2 HGO
  have har := fl_area HG.out
  go_enter Tryd.func76, Tryd.ntmps76
  have B0 : Bx2 (w.alloc (.cells #[.int .i64 r, .int .i64 c] 38)) w.heap.size r c := Bx2.new w r c
  go_wp2_with fail
  refine (seSteps_any F n x y lo hi _ _ (hv.below (B := w.heap.size) (by repeat (first | (with_reducible exact Below.refl _ _) | (with_reducible refine below_ov ?_ ?_) | (with_reducible refine Below.setCell ?_ ?_ _) | (with_reducible refine Below.alloc ?_ ?_ _) | (with_reducible refine Below.drew ?_) | (with_reducible refine below_drewN ?_ _) | (refine Below.trans ?_ (Below.mono ‹Below _ _ _› (by first | omega | (simp; done) | (simp; omega)))) | exact Below.refl _ _ | omega | (focus (simp; done)) | (focus (simp; omega)))) hhi) (by simp; omega) HG.out HOB.out).mono ?_
  rintro e w1 ⟨g, co, rfl, ho, hg1, hg2, hb1⟩
  have hz1 := hb1.size
  simp at hz1 hg1
  have hb01 : Below w.heap.size w w1 := (by repeat (first | (with_reducible exact Below.refl _ _) | (with_reducible refine below_ov ?_ ?_) | (with_reducible refine Below.setCell ?_ ?_ _) | (with_reducible refine Below.alloc ?_ ?_ _) | (with_reducible refine Below.drew ?_) | (with_reducible refine below_drewN ?_ _) | (refine Below.trans ?_ (Below.mono ‹Below _ _ _› (by first | omega | (simp; done) | (simp; omega)))) | exact Below.refl _ _ | omega | (focus (simp; done)) | (focus (simp; omega))))
  have hN : n * (F 0).size ≤ 144 := har.2
  obtain ⟨N, HN⟩ : ∃ N, N = n * (F 0).size := ⟨_, rfl⟩
  rw [← HN] at ho hN
  rw [← HN]
  have HNN := hide HN
  clear HN har
  have M1 : Hid (WMem w w1 g N co (stF F n (x, y)) (r, c)) :=
    ⟨ho, (B0.below ((Below.refl _ _).alloc (Nat.le_refl _) _) (by simp)).below hb1 (by simp; omega), by omega, hg2, hb01⟩
  clear ho B0
  have HIX : Hid (∀ p, opP F n p = true → ixF F p < N) := fun p hp => by rw [HNN.out]; exact ix_lt hp
  obtain ⟨p0, p1, pf, pl⟩ := M1.out.box
  go_wp2_with fail
  refine (seIndex_any F n r c lo hi _ _ (hv.below (B := w.heap.size) hb01 hhi) (by omega) HG.out HOA.out).mono ?_
  rintro e w2 ⟨rfl, hb2⟩
  have hz2 := hb2.size
  have M2 := hide (M1.out.below hb2)
  clear p0 p1 pf pl
  have hlf := lf_bd (F := F) (n := n) HOB.out (r, c)
  rw [← HNN.out] at hlf
  have hix := HIX.out _ HOA.out
  have hcl : w2.cell? ⟨g, ixF F (r, c), none⟩ = some (.int .i64 (lfF F n (x, y) (r, c))) := M2.out.num hix
  have HB2 := hide M2.out.bel
  by_cases hneg : lfF F n (x, y) (r, c) < 0
  · have dn : decide (lfF F n (x, y) (r, c) < 0) = true := decide_eq_true hneg
    go_wp2_with fail
    go_ret2
    exact wb_nil (wb_no hneg) HB2.out
  · have dn : decide (lfF F n (x, y) (r, c) < 0) = false := decide_eq_false hneg
    obtain ⟨K, hK⟩ : ∃ K : Nat, lfF F n (x, y) (r, c) = K := ⟨_, (Int.toNat_of_nonneg (by omega)).symm⟩
    have HK := hide hK
    clear hK
    go_wp2_with fail
    clear hcl dn
    go_loopg [9] (K + 1) (fun gn sv wr => ∃ (k : Nat) (p : Int × Int) (s : ByteArray), sv = .string s ∧ k < gn ∧ k ≤ 144 ∧ s.size + k ≤ 1000 ∧ Hid (opP F n p = true) ∧ Hid (lfF F n (x, y) p = k) ∧ Hid (wbG F n (x, y) k p s = wbG F n (x, y) K (r, c) ⟨#[]⟩) ∧ Hid (WMem w wr g N co (stF F n (x, y)) p))
    case atStart => exact ⟨K, (r, c), _, rfl, by omega, by have := HK.out; omega, by have := HK.out; show 0 + K ≤ 1000; omega, HOA, HK, rfl, M2⟩
    case round =>
      obtain ⟨k, p, s, rfl, hgk, hk144, hss, HP, HL, HW, HM⟩ := hrel
      obtain ⟨p0, p1, pf, pl⟩ := HM.out.box
      go_wp2_with fail
      refine (seIndex_p F n p lo hi _ _ (hv.below (B := w.heap.size) HM.out.bel hhi) (by have := HM.out.bel.size; omega) HG.out HP.out).mono ?_
      rintro e w3 ⟨rfl, hb3⟩
      have hz3 := hb3.size
      have M3 := hide (HM.out.below hb3)
      clear p0 p1 pf pl
      have hix3 := HIX.out _ HP.out
      have hcl : w3.cell? ⟨g, ixF F p, none⟩ = some (.int .i64 k) := by rw [← HL.out]; exact M3.out.num hix3
      cases k with
      | zero =>
        have HB3 := hide M3.out.bel
        have HW' : Hid (s = wbG F n (x, y) K (r, c) ⟨#[]⟩) := HW.out
        go_wp2_with fail
        go_ret2
        exact wb_at HOK.out HK.out HW'.out HB3.out
      | succ k =>
        have dk : decide (((k + 1 : Nat) : Int) > 0) = true := decide_eq_true (by omega)
        have hbs := M3.out.bel.size
        have hgs3 := M3.out.gs
        go_wp2_with fail
        go_loopg [9, 32] 5 (fun gi sv dv wr => ∃ j : Nat, sv = .string s ∧ dv = .int .i64 j ∧ j ≤ 4 ∧ 4 - j < gi ∧ Hid (∀ i, i < j → wbT F n (x, y) p i = false) ∧ Hid (WMem w wr g N co (stF F n (x, y)) p) ∧ Hid (wr.heap[w3.heap.size]? = some (.cells #[.int .i64 1, .int .i64 0, .int .i64 2, .int .i64 3] 3 (0, 0))) ∧ w3.heap.size < wr.heap.size)
        case atStart => exact ⟨0, rfl, rfl, by omega, by omega, fun i hi => absurd hi (Nat.not_lt_zero _), M3.out.below ((Below.refl _ _).alloc (Nat.le_refl _) _), heap_alloc_new w3 _, by simp⟩
        case round =>
          obtain ⟨j, rfl, rfl, hj, hgi, HJ, HMr, HFB, hlr⟩ := hrel
          by_cases hj4 : j < 4
          · have hoc := four_at HFB.out hj4
            obtain ⟨d, hd⟩ : ∃ d, d = ordD j := ⟨_, rfl⟩
            have hd4 : d < 4 := by rw [hd]; exact ordD_lt hj4
            rw [← hd] at hoc
            have HD := hide hd
            clear hd
            obtain ⟨q, hq⟩ : ∃ q, stp p d = q := ⟨_, rfl⟩
            have HQ := hide hq
            clear hq
            obtain ⟨b1, b2, b3, b4⟩ := opP_bd HP.out
            have hf12 := flB_facts HG.out
            have hn12 : n ≤ 12 := hf12.2.1
            have hw12 : (F 0).size ≤ 12 := hf12.2.2.2.1
            clear hf12
            obtain ⟨p0, p1, pf, pl⟩ := HMr.out.box
            have hbr := HMr.out.bel
            have hzr := hbr.size
            have hgr := HMr.out.gs
            go_wp2_with fail
            refine (seStep_p p q d _ HQ.out hd4 (by omega) (by omega) (by omega) (by omega)).mono ?_
            rintro e w4a ⟨rfl, hb4a⟩
            have hz4a := hb4a.size
            have M4a := hide (HMr.out.below hb4a)
            have F4a : Hid (w4a.heap[w3.heap.size]? = some (.cells #[.int .i64 1, .int .i64 0, .int .i64 2, .int .i64 3] 3 (0, 0))) := by
              show _ = _
              rw [hb4a.block _ hlr]
              exact HFB.out
            have hl4a : w3.heap.size < w4a.heap.size := by omega
            clear p0 p1 pf pl hoc
            go_wp2_with fail
            obtain ⟨w4, hw4⟩ : ∃ W, W = w4a.alloc (.cells #[.int .i64 q.1, .int .i64 q.2] 38) := ⟨_, rfl⟩
            rw [← hw4]
            have NQ : Hid (Bx2 w4 w4a.heap.size q.1 q.2) := by show Bx2 _ _ _ _; rw [hw4]; exact Bx2.new _ _ _
            have M4 : Hid (WMem w w4 g N co (stF F n (x, y)) p) := by show WMem _ _ _ _ _ _ _; rw [hw4]; exact M4a.out.below ((Below.refl _ _).alloc (Nat.le_refl _) _)
            have F4 : Hid (w4.heap[w3.heap.size]? = some (.cells #[.int .i64 1, .int .i64 0, .int .i64 2, .int .i64 3] 3 (0, 0))) := by
              show _ = _
              rw [hw4, ((Below.refl w4a.heap.size w4a).alloc (Nat.le_refl _) _).block _ hl4a]
              exact F4a.out
            have hz4 : w4a.heap.size < w4.heap.size := by rw [hw4]; simp
            clear hw4
            have HB4 := hide M4.out.bel
            have hls4 : w3.heap.size < w4.heap.size := by omega
            have hg4 : g < w4.heap.size := M4.out.gs
            have hs4 : w.heap.size < w4.heap.size := M4.out.box.lt
            have ng4 : w.heap.size < g := M4.out.gl
            have nq4 : w4a.heap.size ≠ w.heap.size := by omega
            clear hbr M4a F4a
            cases e1 : opB F n q.1 q.2 with
            | false =>
              have HC : Hid (∀ W, Below w4.heap.size w4 W → (W.cell? ⟨w4a.heap.size, 0, none⟩ = some (.int .i64 q.1) ∧ W.cell? ⟨w4a.heap.size, 1, none⟩ = some (.int .i64 q.2))) := fun W hW => ⟨(NQ.out.below hW NQ.out.lt).c0, (NQ.out.below hW NQ.out.lt).c1⟩
              have HT : Hid (wbT F n (x, y) p j = false) := by show _ = _; rw [wbT, ← HD.out, HQ.out, show opP F n q = false from e1]; rfl
              refine wp_region_mixd [(0, true), (1, true), (2, false), (3, true), (4, true), (5, true), (6, true), (10, true), (11, true), (12, true), (7, false), (8, true), (9, true), (13, false), (14, true), (15, true), (16, true), (17, true), (18, true)] (fun W => Below w4.heap.size w4 W) (by kernel_rfl) (by kernel_rfl) (by kernel_rfl) (by kernel_rfl) (Below.drew (Below.refl _ _)) ?_
              intro wd hwd hbd
              have hzd := hbd.size
              refine mix_look _ _ rfl rfl (fun w' _ => BigFrame.run_move _ rfl w') ?_
              go_simp
              refine mix_look _ (.agg #[.int .i64 q.1, .int .i64 q.2]) rfl rfl (fun w' hw' => (by obtain ⟨a0, a1⟩ := HC.out w' hw'; go_simp)) ?_
              go_simp
              refine mix_call _ 53 #[.slice A n capF, .agg #[.int .i64 q.1, .int .i64 q.2]] rfl rfl (by go_simp) ?_
              refine (seOpen_any F n q.1 q.2 lo hi _ _ (hv.below (B := w.heap.size) (HB4.out.trans (hbd.mono HB4.out.size)) hhi) (by have := HB4.out.size; omega) HG.out).mono ?_
              rintro e w5 ⟨rfl, hb5⟩
              have hz5 := hb5.size
              have hb45 : Below w4.heap.size w4 w5 := hbd.trans (hb5.mono hzd)
              refine ⟨_, rfl, hb45, ?_⟩
              rw [e1]
              go_simp
              refine mix_look _ _ rfl rfl (fun w' _ => BigFrame.run_move _ rfl w') ?_
              go_simp
              refine mix_skip _ rfl rfl ?_
              go_simp
              refine mix_skip _ rfl rfl ?_
              go_simp
              refine mix_skip _ rfl rfl ?_
              go_simp
              refine mix_skip _ rfl rfl ?_
              go_simp
              refine mix_skip _ rfl rfl ?_
              go_simp
              refine mix_skip _ rfl rfl ?_
              go_simp
              refine mix_skipF _ rfl rfl hb45 ?_
              go_simp
              refine mix_skip _ rfl rfl ?_
              go_simp
              refine mix_skip _ rfl rfl ?_
              go_simp
              refine mix_skipF _ rfl rfl hb45 ?_
              go_simp
              refine mix_skip _ rfl rfl ?_
              go_simp
              refine mix_skip _ rfl rfl ?_
              go_simp
              refine mix_skip _ rfl rfl ?_
              go_simp
              refine mix_skip _ rfl rfl ?_
              go_simp
              refine mix_look _ (.bool false) rfl rfl (fun w' hw' => (by go_simp)) ?_
              go_simp
              refine wpMix_nil ?_
              have M5 := hide (M4.out.below hb45)
              have F5 : Hid (w5.heap[w3.heap.size]? = some (.cells #[.int .i64 1, .int .i64 0, .int .i64 2, .int .i64 3] 3 (0, 0))) := by
                show _ = _
                rw [hb45.block _ hls4]
                exact F4.out
              have hl5 : w3.heap.size < w5.heap.size := Nat.lt_of_lt_of_le hls4 hb45.size
              have HJN : Hid (∀ i, i < j + 1 → wbT F n (x, y) p i = false) := fun i hi => by
                rcases Nat.lt_succ_iff_lt_or_eq.1 hi with h | rfl
                · exact HJ.out i h
                · exact HT.out
              clear HC
              go_wp2_with fail
              go_roundg (4 - j)
              case measure => omega
              case rel => exact ⟨j + 1, rfl, by go_num, by omega, by omega, HJN.out, M5.out, F5.out, hl5⟩
            | true =>
              have HOQ : Hid (opP F n q = true) := e1
              have hixq := HIX.out _ HOQ.out
              have hixp := HIX.out _ HP.out
              have HC : Hid (∀ W, Below w4.heap.size w4 W → (W.cell? ⟨w4a.heap.size, 0, none⟩ = some (.int .i64 q.1) ∧ W.cell? ⟨w4a.heap.size, 1, none⟩ = some (.int .i64 q.2)) ∧ (W.cell? ⟨w.heap.size, 0, none⟩ = some (.int .i64 p.1) ∧ W.cell? ⟨w.heap.size, 1, none⟩ = some (.int .i64 p.2)) ∧ W.cell? ⟨g, ixF F q, none⟩ = some (.int .i64 (lfF F n (x, y) q)) ∧ W.cell? ⟨g, ixF F p, none⟩ = some (.int .i64 ((k : Int) + 1))) := fun W hW => by
                have m := M4.out.below hW
                have l := HL.out
                refine ⟨⟨(NQ.out.below hW NQ.out.lt).c0, (NQ.out.below hW NQ.out.lt).c1⟩, ⟨m.box.c0, m.box.c1⟩, m.num (HIX.out _ HOQ.out), ?_⟩
                have h := m.num (HIX.out _ HP.out)
                rw [show stF F n (x, y) (ixF F p) = (k : Int) + 1 by have := HL.out; simp only [lfF] at this; omega] at h
                exact h
              have z1 : IntKind.i64.wrap (k : Int) = (k : Int) := IntWalk.i64_in _ (by omega)
              by_cases he : lfF F n (x, y) q = (k : Int)
              · have HE := hide he
                have HT : Hid (wbT F n (x, y) p j = true) := by show _ = _; rw [wbT, ← HD.out, HQ.out, HOQ.out, decide_eq_true (by rw [HL.out, he]; push_cast; omega)]; rfl
                refine wp_region_mixd [(0, true), (1, true), (2, false), (3, true), (4, true), (5, true), (6, true), (10, true), (11, true), (12, true), (7, false), (8, true), (9, true), (13, false), (14, true), (15, true), (16, true), (17, true), (18, true)] (fun W => Below w4.heap.size w4 W) (by kernel_rfl) (by kernel_rfl) (by kernel_rfl) (by kernel_rfl) (Below.drew (Below.refl _ _)) ?_
                intro wd hwd hbd
                have hzd := hbd.size
                refine mix_look _ _ rfl rfl (fun w' _ => BigFrame.run_move _ rfl w') ?_
                go_simp
                refine mix_look _ (.agg #[.int .i64 q.1, .int .i64 q.2]) rfl rfl (fun w' hw' => (by obtain ⟨⟨a0, a1⟩, ⟨a2, a3⟩, a4, a5⟩ := HC.out w' hw'; go_simp)) ?_
                go_simp
                refine mix_call _ 53 #[.slice A n capF, .agg #[.int .i64 q.1, .int .i64 q.2]] rfl rfl (by go_simp) ?_
                refine (seOpen_any F n q.1 q.2 lo hi _ _ (hv.below (B := w.heap.size) (HB4.out.trans (hbd.mono HB4.out.size)) hhi) (by have := HB4.out.size; omega) HG.out).mono ?_
                rintro e w5 ⟨rfl, hb5⟩
                have hz5 := hb5.size
                have hb45 : Below w4.heap.size w4 w5 := hbd.trans (hb5.mono hzd)
                refine ⟨_, rfl, hb45, ?_⟩
                rw [e1]
                go_simp
                refine mix_look _ _ rfl rfl (fun w' _ => BigFrame.run_move _ rfl w') ?_
                go_simp
                refine mix_look _ _ rfl rfl (fun w' _ => BigFrame.run_move _ rfl w') ?_
                go_simp
                refine mix_look _ _ rfl rfl (fun w' _ => BigFrame.run_move _ rfl w') ?_
                go_simp
                refine mix_look _ (.agg #[.int .i64 q.1, .int .i64 q.2]) rfl rfl (fun w' hw' => (by obtain ⟨⟨a0, a1⟩, ⟨a2, a3⟩, a4, a5⟩ := HC.out w' hw'; go_simp)) ?_
                go_simp
                refine mix_look _ _ rfl rfl (fun w' _ => BigFrame.run_move _ rfl w') ?_
                go_simp
                refine mix_look _ _ rfl rfl (fun w' _ => BigFrame.run_move _ rfl w') ?_
                go_simp
                refine mix_look _ (.agg #[.int .i64 p.1, .int .i64 p.2]) rfl rfl (fun w' hw' => (by obtain ⟨⟨a0, a1⟩, ⟨a2, a3⟩, a4, a5⟩ := HC.out w' hw'; go_simp)) ?_
                go_simp
                refine mix_call _ 91 #[.slice A n capF, .agg #[.int .i64 q.1, .int .i64 q.2]] rfl rfl (by go_simp) ?_
                refine (seIndex_p F n q lo hi _ _ (hv.below (B := w.heap.size) (HB4.out.trans (hb45.mono HB4.out.size)) hhi) (by have := HB4.out.size; have := hb45.size; omega) HG.out HOQ.out).mono ?_
                rintro e w6 ⟨rfl, hb6⟩
                have hz6 := hb6.size
                have hb46 : Below w4.heap.size w4 w6 := hb45.trans (hb6.mono hb45.size)
                refine ⟨_, rfl, hb46, ?_⟩
                go_simp
                refine mix_look _ (.pointer (some ⟨g, ixF F q, none⟩)) rfl rfl (fun w' hw' => (by go_simp)) ?_
                go_simp
                refine mix_look _ (.int .i64 (lfF F n (x, y) q)) rfl rfl (fun w' hw' => (by obtain ⟨⟨a0, a1⟩, ⟨a2, a3⟩, a4, a5⟩ := HC.out w' hw'; go_simp)) ?_
                go_simp
                refine mix_call _ 91 #[.slice A n capF, .agg #[.int .i64 p.1, .int .i64 p.2]] rfl rfl (by go_simp) ?_
                refine (seIndex_p F n p lo hi _ _ (hv.below (B := w.heap.size) (HB4.out.trans (hb46.mono HB4.out.size)) hhi) (by have := HB4.out.size; have := hb46.size; omega) HG.out HP.out).mono ?_
                rintro e w7 ⟨rfl, hb7⟩
                have hz7 := hb7.size
                have hb47 : Below w4.heap.size w4 w7 := hb46.trans (hb7.mono hb46.size)
                refine ⟨_, rfl, hb47, ?_⟩
                go_simp
                refine mix_look _ (.pointer (some ⟨g, ixF F p, none⟩)) rfl rfl (fun w' hw' => (by go_simp)) ?_
                go_simp
                refine mix_look _ (.int .i64 ((k : Int) + 1)) rfl rfl (fun w' hw' => (by obtain ⟨⟨a0, a1⟩, ⟨a2, a3⟩, a4, a5⟩ := HC.out w' hw'; go_simp)) ?_
                go_simp
                refine mix_look _ (.int .i64 k) rfl rfl (fun w' hw' => (by go_simp)) ?_
                go_simp
                refine mix_look _ (.bool true) rfl rfl (fun w' hw' => (by go_simp)) ?_
                go_simp
                refine mix_look _ (.bool true) rfl rfl (fun w' hw' => (by go_simp)) ?_
                go_simp
                refine wpMix_nil ?_
                have M7 := hide (M4.out.below hb47)
                have NQ7 := hide (NQ.out.below hb47 NQ.out.lt)
                have HS : Hid ((⟨#[110, 101, 115, 119]⟩ : ByteArray).extract d (d + 1) = ltrB d) := nesw_one hd4
                have HWN : Hid (wbG F n (x, y) k q (s ++ ltrB d) = wbG F n (x, y) K (r, c) ⟨#[]⟩) := by
                  have h := wbG_step (k := k) (s := s) HT.out hj4 HJ.out
                  rw [← HD.out, HQ.out] at h
                  exact h.symm.trans HW.out
                clear he HC
                obtain ⟨p0, p1, pf, pl⟩ := M7.out.box
                obtain ⟨q0, q1, qf, ql⟩ := NQ7.out
                have zd : IntKind.i64.wrap ((d : Int) + 1) = (d : Int) + 1 := IntWalk.i64_in _ (by omega)
                have hms : ¬ 9223372036854775807 < s.size + (min (d + 1) 4 - d) := by omega
                have hs2 : (s ++ ltrB d).size + k ≤ 1000 := by rw [ByteArray.size_append, ltrB_size]; omega
                go_wp2_with fail
                go_roundg (k + 1)
                case measure => omega
                case rel => exact ⟨k, q, s ++ ltrB d, by rw [HS.out], by omega, by omega, hs2, HOQ.out, HE.out, HWN.out, M7.out.move q.1 q.2⟩
              · have HT : Hid (wbT F n (x, y) p j = false) := by show _ = _; rw [wbT, ← HD.out, HQ.out, HOQ.out, decide_eq_false (by rw [HL.out]; push_cast; omega)]; rfl
                refine wp_region_mixd [(0, true), (1, true), (2, false), (3, true), (4, true), (5, true), (6, true), (10, true), (11, true), (12, true), (7, false), (8, true), (9, true), (13, false), (14, true), (15, true), (16, true), (17, true), (18, true)] (fun W => Below w4.heap.size w4 W) (by kernel_rfl) (by kernel_rfl) (by kernel_rfl) (by kernel_rfl) (Below.drew (Below.refl _ _)) ?_
                intro wd hwd hbd
                have hzd := hbd.size
                refine mix_look _ _ rfl rfl (fun w' _ => BigFrame.run_move _ rfl w') ?_
                go_simp
                refine mix_look _ (.agg #[.int .i64 q.1, .int .i64 q.2]) rfl rfl (fun w' hw' => (by obtain ⟨⟨a0, a1⟩, ⟨a2, a3⟩, a4, a5⟩ := HC.out w' hw'; go_simp)) ?_
                go_simp
                refine mix_call _ 53 #[.slice A n capF, .agg #[.int .i64 q.1, .int .i64 q.2]] rfl rfl (by go_simp) ?_
                refine (seOpen_any F n q.1 q.2 lo hi _ _ (hv.below (B := w.heap.size) (HB4.out.trans (hbd.mono HB4.out.size)) hhi) (by have := HB4.out.size; omega) HG.out).mono ?_
                rintro e w5 ⟨rfl, hb5⟩
                have hz5 := hb5.size
                have hb45 : Below w4.heap.size w4 w5 := hbd.trans (hb5.mono hzd)
                refine ⟨_, rfl, hb45, ?_⟩
                rw [e1]
                go_simp
                refine mix_look _ _ rfl rfl (fun w' _ => BigFrame.run_move _ rfl w') ?_
                go_simp
                refine mix_look _ _ rfl rfl (fun w' _ => BigFrame.run_move _ rfl w') ?_
                go_simp
                refine mix_look _ _ rfl rfl (fun w' _ => BigFrame.run_move _ rfl w') ?_
                go_simp
                refine mix_look _ (.agg #[.int .i64 q.1, .int .i64 q.2]) rfl rfl (fun w' hw' => (by obtain ⟨⟨a0, a1⟩, ⟨a2, a3⟩, a4, a5⟩ := HC.out w' hw'; go_simp)) ?_
                go_simp
                refine mix_look _ _ rfl rfl (fun w' _ => BigFrame.run_move _ rfl w') ?_
                go_simp
                refine mix_look _ _ rfl rfl (fun w' _ => BigFrame.run_move _ rfl w') ?_
                go_simp
                refine mix_look _ (.agg #[.int .i64 p.1, .int .i64 p.2]) rfl rfl (fun w' hw' => (by obtain ⟨⟨a0, a1⟩, ⟨a2, a3⟩, a4, a5⟩ := HC.out w' hw'; go_simp)) ?_
                go_simp
                refine mix_call _ 91 #[.slice A n capF, .agg #[.int .i64 q.1, .int .i64 q.2]] rfl rfl (by go_simp) ?_
                refine (seIndex_p F n q lo hi _ _ (hv.below (B := w.heap.size) (HB4.out.trans (hb45.mono HB4.out.size)) hhi) (by have := HB4.out.size; have := hb45.size; omega) HG.out HOQ.out).mono ?_
                rintro e w6 ⟨rfl, hb6⟩
                have hz6 := hb6.size
                have hb46 : Below w4.heap.size w4 w6 := hb45.trans (hb6.mono hb45.size)
                refine ⟨_, rfl, hb46, ?_⟩
                go_simp
                refine mix_look _ (.pointer (some ⟨g, ixF F q, none⟩)) rfl rfl (fun w' hw' => (by go_simp)) ?_
                go_simp
                refine mix_look _ (.int .i64 (lfF F n (x, y) q)) rfl rfl (fun w' hw' => (by obtain ⟨⟨a0, a1⟩, ⟨a2, a3⟩, a4, a5⟩ := HC.out w' hw'; go_simp)) ?_
                go_simp
                refine mix_call _ 91 #[.slice A n capF, .agg #[.int .i64 p.1, .int .i64 p.2]] rfl rfl (by go_simp) ?_
                refine (seIndex_p F n p lo hi _ _ (hv.below (B := w.heap.size) (HB4.out.trans (hb46.mono HB4.out.size)) hhi) (by have := HB4.out.size; have := hb46.size; omega) HG.out HP.out).mono ?_
                rintro e w7 ⟨rfl, hb7⟩
                have hz7 := hb7.size
                have hb47 : Below w4.heap.size w4 w7 := hb46.trans (hb7.mono hb46.size)
                refine ⟨_, rfl, hb47, ?_⟩
                go_simp
                refine mix_look _ (.pointer (some ⟨g, ixF F p, none⟩)) rfl rfl (fun w' hw' => (by go_simp)) ?_
                go_simp
                refine mix_look _ (.int .i64 ((k : Int) + 1)) rfl rfl (fun w' hw' => (by obtain ⟨⟨a0, a1⟩, ⟨a2, a3⟩, a4, a5⟩ := HC.out w' hw'; go_simp)) ?_
                go_simp
                refine mix_look _ (.int .i64 k) rfl rfl (fun w' hw' => (by go_simp)) ?_
                go_simp
                refine mix_look _ (.bool false) rfl rfl (fun w' hw' => (by go_simp)) ?_
                go_simp
                refine mix_look _ (.bool false) rfl rfl (fun w' hw' => (by go_simp)) ?_
                go_simp
                refine wpMix_nil ?_
                have M7 := hide (M4.out.below hb47)
                have F7 : Hid (w7.heap[w3.heap.size]? = some (.cells #[.int .i64 1, .int .i64 0, .int .i64 2, .int .i64 3] 3 (0, 0))) := by
                  show _ = _
                  rw [hb47.block _ hls4]
                  exact F4.out
                have hl7 : w3.heap.size < w7.heap.size := Nat.lt_of_lt_of_le hls4 hb47.size
                have HJN : Hid (∀ i, i < j + 1 → wbT F n (x, y) p i = false) := fun i hi => by
                  rcases Nat.lt_succ_iff_lt_or_eq.1 hi with h | rfl
                  · exact HJ.out i h
                  · exact HT.out
                clear he HC
                go_wp2_with fail
                go_roundg (4 - j)
                case measure => omega
                case rel => exact ⟨j + 1, rfl, by go_num, by omega, by omega, HJN.out, M7.out, F7.out, hl7⟩
          · exact (wb_some HOB.out HP.out HL.out (fun i hi => HJ.out i (by omega))).elim

end Go.Proofs.YtpckhpkbdanjoaaDoor

/-
  Walks: the reference's list of the open cells on a way or next to it.-/
namespace Go.Proofs.YtpckhpkbdanjoaaDoor
set_option linter.unusedVariables false
set_option linter.unusedSimpArgs false
open Go.RowKit

theorem nflt : ∀ n, flt (fun _ => false) n = []
  | 0 => rfl
  | n + 1 => by rw [flt, nflt n]; rfl
set_option maxRecDepth 100000 in
set_option maxHeartbeats 3200000 in
theorem seNear_any (F : Nat → ByteArray) (n : Nat) (p q : Nat → Int) (m lo hi lo2 hi2 : Nat) (v u : Value) (w : World) (hv : Sl w lo hi 1 v n (sC F)) (hhi : hi ≤ w.heap.size) (hu : Sl w lo2 hi2 2 u m (iiC p q)) (hhi2 : hi2 ≤ w.heap.size) (hg : flB F n = true) (hm : m ≤ 1000) (hop : ∀ t, t < m → opB F n (p t) (q t) = true) :
    Calls Tryd.prog 55 #[v, u] w fun e w' => ∃ v', e = .returned v' ∧ PRowI w' w.heap.size v' (nrF F n p q m) (n * (F 0).size) ∧ Below w.heap.size w w' := by
  obtain ⟨A, cap, rfl, hcap, hA⟩ := hu.open_
  have HG := hide hg
  have HV := hide hv
  have HOP : Hid (∀ t, t < m → opB F n (p t) (q t) = true) := hop
  clear hg hop hv
  go_enter Tryd.func55, Tryd.ntmps55
  go_wp2_with fail
  have hwW : n * (F 0).size ≤ 1000 := by
    have h := HG.out
    obtain ⟨g1, g2, g3, g4, g5, _⟩ := flB_facts h
    have := Nat.mul_le_mul g2 g4
    omega
  go_loopg [5, 13] (m + 1) (fun gn a b wr => ∃ t : Nat, t ≤ m ∧ m - t < gn ∧ b = .int .i64 t ∧ Hid (PRowI wr w.heap.size a (nrF F n p q t) (n * (F 0).size)) ∧ Hid (Below w.heap.size w wr))
  case atStart => exact ⟨0, by omega, by omega, rfl, (by show PRowI _ _ _ _ _; rw [PRowI, fltV, nrF, nflt]; exact World.ownsRow_nil _ _ _ _), Below.refl _ _⟩
  case round =>
    obtain ⟨t, ht, hgt, rfl, HR, HB⟩ := hrel
    have hz := HB.out.size
    by_cases htm : t < m
    · have d1 : decide ((t : Int) < (m : Int)) = true := decide_eq_true (by omega)
      have d1' : decide (t < m) = true := decide_eq_true htm
      obtain ⟨blk, off, rfl, h1, h2, h3⟩ := hA (by omega)
      have l0 : blk < w.heap.size := by omega
      have c0 : wr.cell? ⟨blk, off + t * 2, none⟩ = some (.int .i64 (p t)) := (HB.out.cell (p := ⟨blk, off + t * 2, none⟩) l0).trans (by simpa [iiC] using h3 t 0 htm (by omega))
      have c1 : wr.cell? ⟨blk, off + t * 2 + 1, none⟩ = some (.int .i64 (q t)) := (HB.out.cell (p := ⟨blk, off + t * 2 + 1, none⟩) l0).trans (by simpa [iiC] using h3 t 1 htm (by omega))
      clear hA h3 hu
      go_wp2_with fail
      obtain ⟨bb, hbb⟩ : ∃ bb, bb = wr.heap.size := ⟨_, rfl⟩
      rw [← hbb]
      have HBB := hide hbb
      clear hbb
      go_loopg [5, 8] 4 (fun gn a b wr' => ∃ j : Nat, j ≤ 3 ∧ 3 - j < gn ∧ b = .int .i64 ((j : Int) - 1) ∧ Hid (PRowI wr' w.heap.size a (nrR F n (nrF F n p q t) (p t) (q t) j) (n * (F 0).size)) ∧ Hid (Below w.heap.size w wr') ∧ Hid (Bx2 wr' bb (p t) (q t)))
      case atStart => exact ⟨0, by omega, by omega, rfl, row_below HR.out ((Below.refl _ _).alloc (Nat.le_refl _) _) (Nat.le_refl _), HB.out.alloc (by omega) _, (by rw [HBB.out]; exact Bx2.new _ _ _)⟩
      case round =>
        obtain ⟨j, hj, hgj, rfl, HR2, HB2, HX2⟩ := hrel
        by_cases hj3 : j < 3
        · have d2 : decide (((j : Int) - 1) ≤ 1) = true := decide_eq_true (by omega)
          have hz2 := HB2.out.size
          obtain ⟨x0, x1, xf, xl⟩ := HX2.out
          go_wp2_with fail
          go_loopg [5, 9] 4 (fun gn a b wr3 => ∃ k : Nat, k ≤ 3 ∧ 3 - k < gn ∧ b = .int .i64 ((k : Int) - 1) ∧ Hid (PRowI wr3 w.heap.size a (nrK F n (nrR F n (nrF F n p q t) (p t) (q t) j) (p t + ((j : Int) - 1)) (q t) k) (n * (F 0).size)) ∧ Hid (Below w.heap.size w wr3) ∧ Hid (Bx2 wr3 bb (p t) (q t)))
          case atStart => exact ⟨0, by omega, by omega, rfl, HR2.out, HB2.out, HX2.out⟩
          case round =>
            obtain ⟨k, hk, hgk, rfl, HR3, HB3, HX3⟩ := hrel
            have hz3 := HB3.out.size
            clear x0 x1 xf xl
            by_cases hk3 : k < 3
            · have d3 : decide (((k : Int) - 1) ≤ 1) = true := decide_eq_true (by omega)
              obtain ⟨x0, x1, xf, xl⟩ := HX3.out
              obtain ⟨b1, b2, _⟩ := opB_iff.1 (HOP.out t htm)
              obtain ⟨g1, g2, g3, g4, g5, _⟩ := flB_facts HG.out
              have z1 : IntKind.i64.wrap (p t + ((j : Int) - 1)) = p t + ((j : Int) - 1) := IntWalk.i64_in _ (by omega)
              have z2 : IntKind.i64.wrap (q t + ((k : Int) - 1)) = q t + ((k : Int) - 1) := IntWalk.i64_in _ (by omega)
              clear b1 b2 g1 g2 g3 g4 g5
              go_wp2_with fail
              refine (seOpen_any F n (p t + ((j : Int) - 1)) (q t + ((k : Int) - 1)) lo hi _ _ (HV.out.below (B := w.heap.size) ?_ hhi) ?_ HG.out).mono ?_
              · exact HB3.out.alloc hz3 _
              · simp; omega
              rintro e w4 ⟨rfl, hb4⟩
              have hz4 := hb4.size
              simp at hz4
              have HX4 := hide ((Bx2.new wr (p t + ((j : Int) - 1)) (q t + ((k : Int) - 1))).below hb4 (by simp))
              have hbw : Below wr.heap.size wr w4 := ((Below.refl wr.heap.size wr).alloc (Nat.le_refl _) _).trans (hb4.mono (by simp))
              have HB4 : Hid (Below w.heap.size w w4) := HB3.out.trans (hbw.mono hz3)
              have HR4 : Hid (PRowI w4 w.heap.size u5 (nrK F n (nrR F n (nrF F n p q t) (p t) (q t) j) (p t + ((j : Int) - 1)) (q t) k) (n * (F 0).size)) := row_below HR3.out hbw (Nat.le_refl _)
              have HY4 : Hid (Bx2 w4 bb (p t) (q t)) := HX3.out.below hbw HX3.out.lt
              clear x0 x1 xf xl hbw hb4
              cases eo : opB F n (p t + ((j : Int) - 1)) (q t + ((k : Int) - 1)) with
              | false =>
                have HN : Hid (nrK F n (nrR F n (nrF F n p q t) (p t) (q t) j) (p t + ((j : Int) - 1)) (q t) (k + 1) = nrK F n (nrR F n (nrF F n p q t) (p t) (q t) j) (p t + ((j : Int) - 1)) (q t) k) := by show _ = _; rw [nrK, if_neg (by rw [eo]; simp)]
                go_wp2_with fail
                go_roundg (3 - k)
                case measure => omega
                case rel => exact ⟨k + 1, by omega, by omega, by go_num, (by show PRowI _ _ _ _ _; rw [HN.out]; exact HR4.out), HB4.out, HY4.out⟩
              | true =>
                have HEO := hide eo
                have HN : Hid (nrK F n (nrR F n (nrF F n p q t) (p t) (q t) j) (p t + ((j : Int) - 1)) (q t) (k + 1) = orP (nrK F n (nrR F n (nrF F n p q t) (p t) (q t) j) (p t + ((j : Int) - 1)) (q t) k) (ixF F (p t + ((j : Int) - 1), q t + ((k : Int) - 1)))) := by show _ = _; rw [nrK, if_pos eo]
                obtain ⟨x0, x1, xf, xl⟩ := HX4.out
                clear eo
                go_wp2_with fail
                refine (seIndex_any F n (p t + ((j : Int) - 1)) (q t + ((k : Int) - 1)) lo hi _ _ (HV.out.below (B := w.heap.size) HB4.out hhi) (by omega) HG.out HEO.out).mono ?_
                rintro e w5 ⟨rfl, hb5⟩
                have hz5 := hb5.size
                have HB5 : Hid (Below w.heap.size w w5) := HB4.out.trans (hb5.mono (by omega))
                have HY5 : Hid (Bx2 w5 bb (p t) (q t)) := HY4.out.below hb5 HY4.out.lt
                have hr5 := row_below HR4.out hb5 (Nat.le_refl _)
                clear x0 x1 xf xl
                go_wp2_with fail
                refine (l1Put_any _ _ (ixF F (p t + ((j : Int) - 1), q t + ((k : Int) - 1))) w.heap.size u5 w5 hr5 (ix_lt (p := (_, _)) HEO.out) hwW HB5.out.size).mono ?_
                rintro e w6 ⟨v6, rfl, hr6, hb6⟩
                have HR6 := hide hr6
                have HB6 : Hid (Below w.heap.size w w6) := HB5.out.trans (hb6.mono HB5.out.size)
                have HY6 : Hid (Bx2 w6 bb (p t) (q t)) := HY5.out.below hb6 HY5.out.lt
                clear hr5 hr6 hb6
                go_wp2_with fail
                go_roundg (3 - k)
                case measure => omega
                case rel => exact ⟨k + 1, by omega, by omega, by go_num, (by show PRowI _ _ _ _ _; rw [HN.out]; exact HR6.out), HB6.out, HY6.out⟩
            · have d3 : decide (((k : Int) - 1) ≤ 1) = false := decide_eq_false (by omega)
              obtain rfl : k = 3 := by omega
              go_wp2_with fail
              go_roundg (3 - j)
              case measure => omega
              case rel => exact ⟨j + 1, by omega, by omega, by go_num, HR3.out, HB3.out, HX3.out⟩
        · have d2 : decide (((j : Int) - 1) ≤ 1) = false := decide_eq_false (by omega)
          obtain rfl : j = 3 := by omega
          go_wp2_with fail
          go_roundg (m - t)
          case measure => omega
          case rel => exact ⟨t + 1, by omega, by omega, by go_num, HR2.out, HB2.out⟩
    · have d1 : decide ((t : Int) < (m : Int)) = false := decide_eq_false (by omega)
      have d1' : decide (t < m) = false := decide_eq_false htm
      obtain rfl : t = m := by omega
      go_wp2_with fail
      go_ret
      exact ⟨_, rfl, HR.out, HB.out⟩

end Go.Proofs.YtpckhpkbdanjoaaDoor
