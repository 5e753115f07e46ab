/-
  Texts of this proof, one behind the other (part 6).
-/
import Derived.Test.YtpckhpkbdanjoaaDoorQ5
import Derived.Deep.Heap
/-
  Walks: the steps from a cell to all cells: the reference's.-/
namespace Go.Proofs.YtpckhpkbdanjoaaDoor
set_option linter.unusedVariables false
set_option linter.unusedSimpArgs false
open Go.RowKit

/-- Memory while the reference reckons: the numbers in block g, what is left of the queue, from the k-th on, in block q. -/
structure BMk (w0 w : World) (g q N co off cap k : Nat) (s : Bs) : Prop where
  out : OwnL w g (g + 1) 3 1 (.slice (some ⟨g, 0, none⟩) N co) N N (fun i => .int .i64 (s.o i))
  que : Tl w q 2 off (s.m - k) cap (fun i => iiC (qR s) (qC s) (k + i))
  gl : w0.heap.size ≤ g
  ql : w0.heap.size ≤ q
  gs : g < w.heap.size
  gq : g ≠ q
  bel : Below w0.heap.size w0 w
section
variable {w0 w w' : World} {g q N co off cap k : Nat} {s : Bs}
theorem BMk.keep (h : BMk w0 w g q N co off cap k s) (h1 : w'.heap[g]? = w.heap[g]?) (h2 : w'.heap[q]? = w.heap[q]?) (hs : w.heap.size ≤ w'.heap.size) (hb : Below w0.heap.size w0 w') : BMk w0 w' g q N co off cap k s :=
  ⟨h.out.keep1 h1, h.que.keep h2 (Nat.lt_of_lt_of_le h.que.lt hs), h.gl, h.ql, Nat.lt_of_lt_of_le h.gs hs, h.gq, hb⟩
theorem BMk.below (h : BMk w0 w g q N co off cap k s) (hb : Below w.heap.size w w') : BMk w0 w' g q N co off cap k s :=
  h.keep (hb.block g h.gs) (hb.block q h.que.lt) hb.size (h.bel.trans (hb.mono h.bel.size))
theorem BMk.cell (h : BMk w0 w g q N co off cap k s) (hk : k < s.m) : w.cell? ⟨q, off, none⟩ = some (.int .i64 (s.q k).1) ∧ w.cell? ⟨q, off + 1, none⟩ = some (.int .i64 (s.q k).2) := by
  have a := h.que.at_ 0 0 (by omega) (by omega)
  have b := h.que.at_ 0 1 (by omega) (by omega)
  simp only [Nat.zero_mul, Nat.add_zero] at a b
  exact ⟨a, b⟩
theorem BMk.num (h : BMk w0 w g q N co off cap k s) {i : Nat} (hi : i < N) : w.cell? ⟨g, i, none⟩ = some (.int .i64 (s.o i)) ∧ w.frozen? ⟨g, i, none⟩ = false := by
  obtain ⟨_, b, c⟩ := h.out.cell (by omega) (o := i) (by omega)
  exact ⟨c hi, b⟩
theorem BMk.set (h : BMk w0 w g q N co off cap k s) {i : Nat} (hi : i < N) (x : Int) : BMk w0 (w.setCell ⟨g, i, none⟩ (.int .i64 x)) g q N co off cap k { s with o := updI s.o i x } := by
  refine ⟨(h.out.set (o := i) (by omega) _).congr fun o _ => ?_, h.que.keep (Deep.blk_setCell_other _ _ _ _ h.gq.symm) (by simp [World.setCell]; exact h.que.lt), h.gl, h.ql, by simp [World.setCell]; exact h.gs, h.gq, h.bel.setCell h.gl _⟩
  simp only [updI]
  split <;> rfl
/-- The first one is taken. -/
theorem BMk.tail (h : BMk w0 w g q N co off cap k s) (hk : k < s.m) : BMk w0 w g q N co (if cap = 1 then off else off + 2) (cap - 1) (k + 1) s := by
  have hq := h.que
  rw [show s.m - k = s.m - (k + 1) + 1 by omega] at hq
  exact ⟨h.out, hq.tail.congr fun i j _ _ => by rw [show k + (i + 1) = k + 1 + i by omega], h.gl, h.ql, h.gs, h.gq, h.bel⟩
theorem BMk.push (h : BMk w0 w g q N co off cap k s) {q' off' cap' : Nat} {p : Int × Int} (ht : Tl w' q' 2 off' (s.m + 1 - k) cap' (fun i => iiC (qR { s with q := updP s.q s.m p, m := s.m + 1 }) (qC { s with q := updP s.q s.m p, m := s.m + 1 }) (k + i))) (hg : w.grownBy w' (some q)) (hq : q' = q ∨ w.heap.size ≤ q') :
    BMk w0 w' g q' N co off' cap' k { s with q := updP s.q s.m p, m := s.m + 1 } := by
  have hgs := h.gs
  refine ⟨h.out.keep1 (hg.block g h.gs (fun e => h.gq (by injection e))), ht, h.gl, ?_, Nat.lt_of_lt_of_le h.gs hg.size, ?_, h.bel.grown hg h.bel.size (fun k hk => by injection hk with e; rw [← e]; exact h.ql)⟩
  · have := h.bel.size
    have := h.ql
    omega
  · have := h.gq
    omega
theorem BMem.bmk (h : BMem w0 w g q N co off cap s) : BMk w0 w g q N co off cap 0 s :=
  ⟨h.out, h.que.congr fun i j _ _ => by rw [Nat.zero_add], h.gl, h.ql, h.gs, h.gq, h.bel⟩
end
theorem rep_row : ∀ i : Nat, List.replicate i (Value.int .i64 (-1)) = rowL (iC (fun _ => -1)) 1 i
  | 0 => rfl
  | i + 1 => by rw [List.replicate_succ', rep_row i, rowL]; rfl
theorem seStep_p (p y : Int × Int) (d : Nat) (w : World) (hy : stp p d = y) (hd : d < 4) (hr : -1000 ≤ p.1) (hr' : p.1 ≤ 1000) (hc : -1000 ≤ p.2) (hc' : p.2 ≤ 1000) :
    Calls Tryd.prog 85 #[.agg #[.int .i64 p.1, .int .i64 p.2], .int .i64 d] w fun e w' => e = .returned (.agg #[.int .i64 y.1, .int .i64 y.2]) ∧ Below w.heap.size w w' := by
  subst hy
  exact seStep_any p.1 p.2 d w hd hr hr' hc hc'
theorem mix_store {P : Program} {ops : Array Oper} {C : World → Prop} {Q : Act → World → Prop} {k : Nat} {r : List (Nat × Bool)} {a : Act} {w : World} (o : Oper) (w' : World) (hk : ops[k]? = some o) (hw : Region.wanted o (yielded ops a.tmps) = true) (hv : (execOp a.eval o).run P w = .ok .skip w') (hC : C w')
    (h : wpMix P ops C Q r (a.put o.dst undef) w') : wpMix P ops C Q ((k, false) :: r) a w := by
  show eOp P ops k _ a w
  unfold eOp
  simp only [hk, hw, if_true, hv, goesUpon]
  exact ⟨hC, h⟩
theorem seIndex_p (F : Nat → ByteArray) (n : Nat) (p : Int × Int) (lo hi : Nat) (v : Value) (w : World) (hv : Sl w lo hi 1 v n (sC F)) (hhi : hi ≤ w.heap.size) (hg : flB F n = true) (ho : opP F n p = true) :
    Calls Tryd.prog 91 #[v, .agg #[.int .i64 p.1, .int .i64 p.2]] w fun e w' => e = .returned (.int .i64 (ixF F p)) ∧ Below w.heap.size w w' := seIndex_any F n p.1 p.2 lo hi v w hv hhi hg ho
set_option maxRecDepth 100000 in
set_option maxHeartbeats 3200000 in
theorem seSteps_any (F : Nat → ByteArray) (n : Nat) (r c : Int) (lo hi : Nat) (v : Value) (w : World) (hv : Sl w lo hi 1 v n (sC F)) (hhi : hi ≤ w.heap.size) (hg : flB F n = true) (ho : opB F n r c = true) :
    Calls Tryd.prog 67 #[v, .agg #[.int .i64 r, .int .i64 c]] w fun e w' => ∃ g co, e = .returned (.slice (some ⟨g, 0, none⟩) (n * (F 0).size) co) ∧ OwnL w' g (g + 1) 3 1 (.slice (some ⟨g, 0, none⟩) (n * (F 0).size) co) (n * (F 0).size) (n * (F 0).size) (fun i => .int .i64 (stF F n (r, c) i)) ∧ w.heap.size ≤ g ∧ g < w'.heap.size ∧ Below w.heap.size w w' := by
  obtain ⟨A, capF, rfl, hcap, hA⟩ := hv.open_
  obtain ⟨g1, g2, g3, g4, _, _⟩ := flB_facts hg
  obtain ⟨blk, offF, rfl, h1, h2, h3⟩ := hA (by omega)
  have c0 : w.cell? ⟨blk, offF, none⟩ = some (.string (F 0)) := by simpa [sC] using h3 0 0 (by omega) (by omega)
  have l0 : blk < w.heap.size := by omega
  have hop : opP F n (r, c) = true := ho
  obtain ⟨N, hN⟩ : ∃ N, N = n * (F 0).size := ⟨_, rfl⟩
  have hN1 : 1 ≤ N ∧ N ≤ 144 := by
    have h5 : n * (F 0).size ≤ 12 * 12 := Nat.mul_le_mul g2 g4
    have h6 : 1 * 1 ≤ n * (F 0).size := Nat.mul_le_mul g1 g3
    omega
  have m1 : (n : Int) * ((F 0).size : Int) = (N : Int) := by rw [hN]; push_cast; rfl
  have m2 : IntKind.i64.wrap ((n : Int) * ((F 0).size : Int)) = (N : Int) := by rw [m1]; exact IntWalk.i64_in _ (by omega)
  have HN := hide hN
  have HI0 : Hid (ixF F (r, c) < N) := by show _ < _; rw [hN]; exact ix_lt (p := (r, c)) ho
  rw [← hN]
  have bd0 := opP_bd hop
  have hixN := HI0.out
  have HG := hide hg
  have HOP := hide hop
  obtain ⟨ii, hii, iz0, iz1, iz2⟩ := info_parts infoCell2
  obtain ⟨ij, hij, jz0, jz1, jz2⟩ := info_parts infoI1
  clear hA hN h3 hg hop ho
  go_enter Tryd.func67, Tryd.ntmps67
  go_wp2_with fail
  go_loopw [5, 6] (fun ov iv wr => ∃ (i : Nat) (A : Option Addr) (cp : Nat), i ≤ N ∧ iv = .int .i64 i ∧ ov = .slice A i cp ∧ Hid (wr.ownsRow (w.heap.size + 1) 3 1 (.slice A i cp) i (List.replicate i (.int .i64 (-1)))) ∧ Below (w.heap.size + 1) (w.alloc (.cells #[.int .i64 r, .int .i64 c] 38)) wr) (fun _ iv _ => N - (intOf iv).toNat)
  case atStart => exact ⟨0, none, 0, by omega, rfl, rfl, World.ownsRow_nil _ _ _ _, Below.refl _ _⟩
  case round =>
    obtain ⟨i, A1, cp, hi1, rfl, rfl, HO, hbr⟩ := hrel
    have hzr := hbr.size
    simp at hzr
    have hbw : Below w.heap.size w wr := ((Below.refl _ _).alloc (Nat.le_refl _) _).trans (hbr.mono (by omega))
    have c0' : wr.cell? ⟨blk, offF, none⟩ = some (.string (F 0)) := (hbw.cell (p := ⟨blk, offF, none⟩) l0).trans c0
    have lb' : blk < wr.heap.size := by omega
    by_cases hiN : i < N
    · have HL : Hid (List.replicate (i + 1) (Value.int .i64 (-1)) = List.replicate i (.int .i64 (-1)) ++ [.int .i64 (-1)]) := by show _ = _; rw [List.replicate_succ']
      go_wp2_with (at_builtin; refine wpList_append_own _ rfl _ _ 48 rfl (w.heap.size + 1) 3 ij (.int .i64 0) 1 8 Tryd.underlying48 hij jz0 jz1 jz2 rfl (by decide) _ _ _ rfl (HO.out.alloc _) ⟨wr.heap.size, 0, none⟩ 1 1 [.int .i64 (-1)] rfl rfl (by intro i u hu; match i, hu with | 0, hu => (simp at hu; subst hu; simp [go_sem, Addr.add])) (by intro u hu; simp at hu; subst hu; rfl) (by unfold maxLen; omega) (by omega) (by simp; omega) ?_)
      intro v' w5 hown5 hg5 _
      have hb5 : Below (w.heap.size + 1) (w.alloc (.cells #[.int .i64 r, .int .i64 c] 38)) w5 := (hbr.alloc (by omega) _).grown hg5 (by simp; omega) (fun g hg => (HO.out.lt g hg).1)
      obtain ⟨B2, cp2, rfl⟩ := row_form hown5
      rw [← HL.out] at hown5
      have hown6 := hide hown5
      clear hown5 hg5 HO
      go_wp2_with fail
      go_roundw
      case rel => exact ⟨i + 1, B2, cp2, by omega, by go_num, rfl, hown6, hb5⟩
      case measure => simp [intOf]; omega
    · obtain rfl : i = N := by omega
      obtain ⟨g, rfl⟩ : ∃ g, A1 = some ⟨g, 0, none⟩ := by
        rcases HO.out.2 with ⟨_, h⟩ | ⟨g, _, _, h, _⟩
        · omega
        · injection h with h
          exact ⟨g, h⟩
      have hgb := HO.out.lt g rfl
      have hrow := rep_row i
      have hol : OwnL wr g (g + 1) 3 1 (.slice (some ⟨g, 0, none⟩) i cp) i i (fun _ => .int .i64 (-1)) := by
        have h := HO.out
        have h' : wr.ownsRow (w.heap.size + 1) 3 1 (.slice (some ⟨g, 0, none⟩) i cp) i (rowL (iC (fun _ => -1)) 1 i) := hrow ▸ h
        have h2 := row_at h' (by omega) rfl
        rw [Nat.mul_one] at h2
        exact h2.congr fun o _ => rfl
      obtain ⟨hci, hcm⟩ := hol.cap_le (by omega)
      have HOL := hide hol
      have px0 : wr.cell? ⟨w.heap.size, 0, none⟩ = some (.int .i64 r) := (hbr.cell (p := ⟨w.heap.size, 0, none⟩) (by show w.heap.size < _; omega)).trans (World.cell?_alloc_new _ _ _ _)
      have px1 : wr.cell? ⟨w.heap.size, 1, none⟩ = some (.int .i64 c) := (hbr.cell (p := ⟨w.heap.size, 1, none⟩) (by show w.heap.size < _; omega)).trans (World.cell?_alloc_new _ _ _ _)
      have lp0 : w.heap.size < wr.heap.size := by omega
      have hne0 : ¬ g = w.heap.size := by omega
      clear hol hrow HO
      go_wp2_with fail
      refine (seIndex_p F n (r, c) lo hi _ _ (hv.below (B := w.heap.size) hbw hhi) (by omega) HG.out HOP.out).mono ?_
      rintro e w1 ⟨rfl, hb1⟩
      have hz1 := hb1.size
      have hol1 := HOL.out.keep1 (hb1.block g hgb.2)
      obtain ⟨⟨u0, hu0⟩, hf0, _⟩ := hol1.cell (by omega) (o := ixF F (r, c)) (by omega)
      have hb01 : Below w.heap.size w w1 := hbw.trans (hb1.mono (by omega))
      have HST : Hid (BMk w _ g w1.heap.size i cp 0 1 0 (bs0 F (r, c))) := (BMem.start (F := F) (a := (r, c)) (w0 := w) hol1 hixN (by omega) (by omega) hb01).bmk
      have px0' : w1.cell? ⟨w.heap.size, 0, none⟩ = some (.int .i64 r) := (hb1.cell (p := ⟨w.heap.size, 0, none⟩) lp0).trans px0
      have px1' : w1.cell? ⟨w.heap.size, 1, none⟩ = some (.int .i64 c) := (hb1.cell (p := ⟨w.heap.size, 1, none⟩) lp0).trans px1
      have lg1 : g < w1.heap.size := by omega
      have lp1 : w.heap.size < w1.heap.size := by omega
      unfold maxLen at hcm
      clear px0 px1 hol1 c0' lp0
      go_wp2_with fail
      clear px0' px1' hu0 hf0
      go_loopg [7] i (fun gn qv wr => ∃ (k l f q off cap : Nat) (s : Bs), qv = .slice (some ⟨q, off, none⟩) l cap ∧ Hid (s.m = k + l) ∧ i - k ≤ gn ∧ i ≤ f + k ∧ Hid (BInv F n (r, c) s) ∧ Hid (bfs F n f k s = bsF F n (r, c)) ∧ Hid (BMk w wr g q i cp off cap k s))
      case atStart => exact ⟨0, 1, i, w1.heap.size, 0, 1, bs0 F (r, c), by simp, rfl, by omega, by omega, BInv.start HOP.out, by show _ = _; rw [HN.out]; rfl, show BMk _ _ _ _ _ _ _ _ _ _ from by simpa using HST.out⟩
      case round =>
        clear hbw lb' hzr hbr
        obtain ⟨k, l, f, q, off, cap, s, rfl, hkl, hgk, hfk, HI, HB, HM⟩ := hrel
        have hmN : s.m ≤ i := by rw [HN.out]; exact HI.out.m_le
        have hkl' := hkl.out
        have hcl := HM.out.que.le
        have hcm2 := HM.out.que.mx
        unfold maxLen at hcm2
        by_cases hl0 : 0 < l
        · have hkm : k < s.m := by omega
          obtain ⟨l, rfl⟩ : ∃ l', l = l' + 1 := ⟨l - 1, by omega⟩
          obtain ⟨f, rfl⟩ : ∃ f', f = f' + 1 := ⟨f - 1, by omega⟩
          have HP : Hid (opP F n (s.q k) = true ∧ 0 ≤ s.o (ixF F (s.q k))) := HI.out.hq k hkm
          obtain ⟨o2, ho2⟩ : ∃ o2, o2 = (if cap = 1 then off else off + 2) := ⟨_, rfl⟩
          have MT : Hid (BMk w wr g q i cp o2 (cap - 1) (k + 1) s) := by
            have h := HM.out.tail hkm
            rw [← ho2] at h
            exact h
          have hsl : ∀ W, (Instr.slice 26 (.slice (some ⟨q, off, none⟩) (l + 1) cap) (some (.int .i64 1)) none none).run Tryd.prog W = .ok (.slice (some ⟨q, o2, none⟩) l (cap - 1)) W := fun W => by
            rw [ho2]
            by_cases h1 : cap = 1
            · subst h1
              simp [go_sem, Tryd.underlying26]
              omega
            · simp [go_sem, Tryd.underlying26, h1]
              omega
          obtain ⟨qc0, qc1⟩ := HM.out.cell hkm
          obtain ⟨wo, ewo⟩ : ∃ wo : World, wo = wr := ⟨_, rfl⟩
          subst ewo
          have hwo := HM.out.bel.size
          have lq0 := HM.out.que.lt
          have lg0 := HM.out.gs
          have HCL := hide hkl'
          clear ho2 hcl hkl'
          go_wp2_with fail
          clear qc0 qc1 hsl
          go_loopg [7, 9] 5 (fun gi qv dv wr => ∃ (d l' q' off' cap' : Nat) (s' : Bs), d ≤ 4 ∧ 4 - d < gi ∧ dv = .int .i64 d ∧ qv = .slice (some ⟨q', off', none⟩) l' cap' ∧ Hid (s'.m = k + 1 + l') ∧ Hid (s' = pshN F n (s.q k) d s) ∧ Hid (BMk w wr g q' i cp off' cap' (k + 1) s') ∧ Hid (wr.heap[wo.heap.size]? = some (.cells #[.int .i64 (s.q k).1, .int .i64 (s.q k).2] 38 (0, 0))) ∧ wo.heap.size ≠ g ∧ wo.heap.size ≠ q' ∧ wo.heap.size < wr.heap.size)
          case atStart => exact ⟨0, l, q, o2, cap - 1, s, by omega, by omega, rfl, rfl, by show _ = _; rw [HCL.out]; omega, rfl, MT.out.below ((Below.refl _ _).alloc (Nat.le_refl _) _), heap_alloc_new wo _, by omega, by omega, by simp⟩
          case round =>
            obtain ⟨d, l', q', off', cap', s', hd, hgi, rfl, rfl, HL', HS, HM', HNB, hng, hnq, hil⟩ := hrel
            obtain ⟨a1, a2, a3, a4⟩ := HI.out.pshN HP.out.1 HP.out.2 hd
            rw [← HS.out] at a1 a2 a3 a4
            have HI' := hide a1
            have HO' := hide a2
            have hm'N : s'.m ≤ i := by rw [HN.out]; exact a1.m_le
            have hl' := HL'.out
            clear a1 a2 a3 a4
            by_cases hd4 : d < 4
            · have nc0 : wr.cell? ⟨wo.heap.size, 0, none⟩ = some (.int .i64 (s.q k).1) := (by simp [World.cell?, HNB.out])
              have nc1 : wr.cell? ⟨wo.heap.size, 1, none⟩ = some (.int .i64 (s.q k).2) := (by simp [World.cell?, HNB.out])
              obtain ⟨y, hy⟩ : ∃ y, stp (s.q k) d = y := ⟨_, rfl⟩
              have HY := hide hy
              obtain ⟨b1, b2, b3, b4⟩ := opP_bd HP.out.1
              have lng := hng
              have lgr := HM'.out.gs
              have lqr := HM'.out.que.lt
              have hbr := HM'.out.bel
              have HL2 := hide hl'
              clear hy hl'
              go_wp2_with fail
              refine (seStep_p (s.q k) y d _ HY.out hd4 (by omega) (by omega) (by omega) (by omega)).mono ?_
              rintro e w2 ⟨rfl, hb2⟩
              have hz2 := hb2.size
              have hbw2 : Below w.heap.size w w2 := hbr.trans (hb2.mono hbr.size)
              have hzw2 := hbw2.size
              go_wp2_with fail
              refine (seOpen_any F n y.1 y.2 lo hi _ _ (hv.below (B := w.heap.size) (hbw2.alloc hbw2.size _) hhi) (by simp; omega) HG.out).mono ?_
              rintro e w3 ⟨rfl, hb3⟩
              have hz3 := hb3.size
              simp at hz3
              have ny0 : w3.cell? ⟨w2.heap.size, 0, none⟩ = some (.int .i64 y.1) := (hb3.cell (p := ⟨w2.heap.size, 0, none⟩) (by simp)).trans (World.cell?_alloc_new _ _ _ _)
              have ny1 : w3.cell? ⟨w2.heap.size, 1, none⟩ = some (.int .i64 y.2) := (hb3.cell (p := ⟨w2.heap.size, 1, none⟩) (by simp)).trans (World.cell?_alloc_new _ _ _ _)
              have M3 : Hid (BMk w w3 g q' i cp off' cap' (k + 1) s') := ((HM'.out.below hb2).below ((Below.refl _ _).alloc (Nat.le_refl _) _)).below hb3
              have hb23 : Below w2.heap.size w2 w3 := ((Below.refl _ _).alloc (Nat.le_refl _) _).trans (hb3.mono (by simp))
              have N3 : Hid (w3.heap[wo.heap.size]? = some (.cells #[.int .i64 (s.q k).1, .int .i64 (s.q k).2] 38 (0, 0))) := by
                show _ = _
                rw [hb23.block _ (by omega), hb2.block _ hil]
                exact HNB.out
              have hly : w2.heap.size < w3.heap.size := by omega
              clear nc0 nc1
              cases e1 : opB F n y.1 y.2 with
              | false =>
                have HS' : Hid (s' = pshN F n (s.q k) (d + 1) s) := by
                  show _ = _
                  rw [pshN, ← HS.out, psh, pshB, HY.out, show opP F n y = false from e1]
                  rfl
                go_wp2_with fail
                go_roundg (4 - d)
                case measure => omega
                case rel => exact ⟨d + 1, l', q', off', cap', s', by omega, by omega, by go_num, rfl, HL2.out, HS', M3, N3, hng, hnq, by omega⟩
              | true =>
                have hoy : opP F n y = true := e1
                have hiy : ixF F y < i := by rw [HN.out]; exact ix_lt hoy
                have HOY := hide hoy
                obtain ⟨y1, y2, y3, y4⟩ := opP_bd hoy
                clear hoy
                go_wp2_with fail
                refine (seIndex_p F n y lo hi _ _ (hv.below (B := w.heap.size) M3.out.bel hhi) (by omega) HG.out HOY.out).mono ?_
                rintro e w4 ⟨rfl, hb4⟩
                have hz4 := hb4.size
                have M4 := hide (M3.out.below hb4)
                obtain ⟨oc, of⟩ := M4.out.num hiy
                have lg4 := M4.out.gs
                have N4 : Hid (w4.heap[wo.heap.size]? = some (.cells #[.int .i64 (s.q k).1, .int .i64 (s.q k).2] 38 (0, 0))) := by
                  show _ = _
                  rw [hb4.block _ (by omega)]
                  exact N3.out
                have ny0' : w4.cell? ⟨w2.heap.size, 0, none⟩ = some (.int .i64 y.1) := (hb4.cell (p := ⟨w2.heap.size, 0, none⟩) hly).trans ny0
                have ny1' : w4.cell? ⟨w2.heap.size, 1, none⟩ = some (.int .i64 y.2) := (hb4.cell (p := ⟨w2.heap.size, 1, none⟩) hly).trans ny1
                have nc0 : w4.cell? ⟨wo.heap.size, 0, none⟩ = some (.int .i64 (s.q k).1) := (by simp [World.cell?, N4.out])
                have nc1 : w4.cell? ⟨wo.heap.size, 1, none⟩ = some (.int .i64 (s.q k).2) := (by simp [World.cell?, N4.out])
                clear ny0 ny1
                cases e2 : decide (s'.o (ixF F y) < 0) with
                | false =>
                  have HS' : Hid (s' = pshN F n (s.q k) (d + 1) s) := by
                    show _ = _
                    rw [pshN, ← HS.out, psh, pshB, HY.out, e2]
                    simp
                  go_wp2_with fail
                  go_roundg (4 - d)
                  case measure => omega
                  case rel => exact ⟨d + 1, l', q', off', cap', s', by omega, by omega, by go_num, rfl, HL2.out, HS', M4, N4, hng, hnq, by omega⟩
                | true =>
                  have hip : ixF F (s.q k) < i := by rw [HN.out]; exact ix_lt HP.out.1
                  obtain ⟨pc, _⟩ := M4.out.num hip
                  have hob := HI'.out.hb (ixF F (s.q k))
                  have zo : IntKind.i64.wrap (s'.o (ixF F (s.q k)) + 1) = s'.o (ixF F (s.q k)) + 1 := IntWalk.i64_in _ (by omega)
                  have hpy : ixF F (s.q k) ≠ ixF F y := fun e => by
                    have := HO'.out
                    have h2 := of_decide_eq_true e2
                    rw [e] at this
                    omega
                  have HC : Hid (∀ W, Below w4.heap.size w4.drew W → (W.cell? ⟨w2.heap.size, 0, none⟩ = some (.int .i64 y.1) ∧ W.cell? ⟨w2.heap.size, 1, none⟩ = some (.int .i64 y.2)) ∧ (W.cell? ⟨wo.heap.size, 0, none⟩ = some (.int .i64 (s.q k).1) ∧ W.cell? ⟨wo.heap.size, 1, none⟩ = some (.int .i64 (s.q k).2)) ∧ W.cell? ⟨g, ixF F (s.q k), none⟩ = some (.int .i64 (s'.o (ixF F (s.q k))))) := fun W hW =>
                    ⟨⟨(hW.cell (p := ⟨w2.heap.size, 0, none⟩) (by show w2.heap.size < _; omega)).trans ny0', (hW.cell (p := ⟨w2.heap.size, 1, none⟩) (by show w2.heap.size < _; omega)).trans ny1'⟩, ⟨(hW.cell (p := ⟨wo.heap.size, 0, none⟩) (by show wo.heap.size < _; omega)).trans nc0, (hW.cell (p := ⟨wo.heap.size, 1, none⟩) (by show wo.heap.size < _; omega)).trans nc1⟩, (hW.cell (p := ⟨g, ixF F (s.q k), none⟩) lg4).trans pc⟩
                  have hzd : w4.drew.heap.size = w4.heap.size := rfl
                  go_wp2_with fail
                  have HE2 := hide e2
                  clear oc of pc nc0 nc1 ny0' ny1' e2
                  refine wp_region_mix [(0, true), (1, true), (2, true), (4, true), (5, true), (6, true), (3, false), (7, false), (8, true), (9, true), (10, true), (11, true), (12, false)] (fun W => (W.cell? ⟨w2.heap.size, 0, none⟩ = some (.int .i64 y.1) ∧ W.cell? ⟨w2.heap.size, 1, none⟩ = some (.int .i64 y.2)) ∧ (W.cell? ⟨wo.heap.size, 0, none⟩ = some (.int .i64 (s.q k).1) ∧ W.cell? ⟨wo.heap.size, 1, none⟩ = some (.int .i64 (s.q k).2)) ∧ W.cell? ⟨g, ixF F (s.q k), none⟩ = some (.int .i64 (s'.o (ixF F (s.q k))))) (by kernel_rfl) (by kernel_rfl) (by kernel_rfl) (by kernel_rfl) (HC.out _ (Below.refl _ _)) ?_
                  refine mix_look _ _ rfl rfl (fun w' _ => BigFrame.run_move _ rfl w') ?_
                  go_simp
                  refine mix_look _ _ rfl rfl (fun w' _ => BigFrame.run_move _ rfl w') ?_
                  go_simp
                  refine mix_look _ (.agg #[.int .i64 y.1, .int .i64 y.2]) rfl rfl (fun w' hw' => (by obtain ⟨⟨a0, a1⟩, _⟩ := hw'; go_simp)) ?_
                  go_simp
                  refine mix_look _ _ rfl rfl (fun w' _ => BigFrame.run_move _ rfl w') ?_
                  go_simp
                  refine mix_look _ _ rfl rfl (fun w' _ => BigFrame.run_move _ rfl w') ?_
                  go_simp
                  refine mix_look _ (.agg #[.int .i64 (s.q k).1, .int .i64 (s.q k).2]) rfl rfl (fun w' hw' => (by obtain ⟨_, ⟨a0, a1⟩, _⟩ := hw'; go_simp)) ?_
                  go_simp
                  refine mix_call _ 91 #[.slice (some ⟨blk, offF, none⟩) n capF, .agg #[.int .i64 y.1, .int .i64 y.2]] rfl rfl (by go_simp) ?_
                  refine (seIndex_p F n y lo hi _ _ (hv.below (B := w.heap.size) (Below.drew M4.out.bel) hhi) (by omega) HG.out HOY.out).mono ?_
                  rintro e w5 ⟨rfl, hb5⟩
                  have hz5 := hb5.size
                  refine ⟨_, rfl, HC.out _ hb5, ?_⟩
                  go_simp
                  refine mix_call _ 91 #[.slice (some ⟨blk, offF, none⟩) n capF, .agg #[.int .i64 (s.q k).1, .int .i64 (s.q k).2]] rfl rfl (by go_simp) ?_
                  refine (seIndex_p F n (s.q k) lo hi _ _ (hv.below (B := w.heap.size) ((Below.drew M4.out.bel).trans (hb5.mono M4.out.bel.size)) hhi) (by omega) HG.out HP.out.1).mono ?_
                  rintro e w6 ⟨rfl, hb6⟩
                  have hz6 := hb6.size
                  have hb46 : Below w4.heap.size w4.drew w6 := hb5.trans (hb6.mono hb5.size)
                  refine ⟨_, rfl, HC.out _ hb46, ?_⟩
                  go_simp
                  refine mix_look _ (.pointer (some ⟨g, ixF F (s.q k), none⟩)) rfl rfl (fun w' hw' => (by go_simp)) ?_
                  go_simp
                  refine mix_look _ (.int .i64 (s'.o (ixF F (s.q k)))) rfl rfl (fun w' hw' => (by obtain ⟨_, _, a0⟩ := hw'; go_simp)) ?_
                  go_simp
                  refine mix_look _ (.int .i64 (s'.o (ixF F (s.q k)) + 1)) rfl rfl (fun w' hw' => (by go_simp)) ?_
                  go_simp
                  refine mix_look _ (.pointer (some ⟨g, ixF F y, none⟩)) rfl rfl (fun w' hw' => (by go_simp)) ?_
                  go_simp
                  have M6 := hide (M4.out.below (w' := w6) ((Below.drew (Below.refl w4.heap.size w4)).trans hb46))
                  obtain ⟨oc, of⟩ := M6.out.num hiy
                  obtain ⟨⟨ca0, ca1⟩, ⟨cb0, cb1⟩, cc3⟩ := HC.out _ hb46
                  have hne4 : w2.heap.size ≠ g := by omega
                  have N6 : Hid (w6.heap[wo.heap.size]? = some (.cells #[.int .i64 (s.q k).1, .int .i64 (s.q k).2] 38 (0, 0))) := by
                    show _ = _
                    rw [hb46.block _ (by omega)]
                    exact N4.out
                  obtain ⟨W7, hW7⟩ : ∃ W7, W7 = w6.setCell ⟨g, ixF F y, none⟩ (.int .i64 (s'.o (ixF F (s.q k)) + 1)) := ⟨_, rfl⟩
                  have hk7 : ∀ b, b ≠ g → W7.heap[b]? = w6.heap[b]? := fun b hb => by rw [hW7]; exact Deep.blk_setCell_other _ _ _ _ hb
                  have ny0 : W7.cell? ⟨w2.heap.size, 0, none⟩ = some (.int .i64 y.1) := (World.cell?_of_block (a := ⟨w2.heap.size, 0, none⟩) (hk7 _ hne4)).trans ca0
                  have ny1 : W7.cell? ⟨w2.heap.size, 1, none⟩ = some (.int .i64 y.2) := (World.cell?_of_block (a := ⟨w2.heap.size, 1, none⟩) (hk7 _ hne4)).trans ca1
                  have nc0' : W7.cell? ⟨wo.heap.size, 0, none⟩ = some (.int .i64 (s.q k).1) := (World.cell?_of_block (a := ⟨wo.heap.size, 0, none⟩) (hk7 _ lng)).trans cb0
                  have nc1' : W7.cell? ⟨wo.heap.size, 1, none⟩ = some (.int .i64 (s.q k).2) := (World.cell?_of_block (a := ⟨wo.heap.size, 1, none⟩) (hk7 _ lng)).trans cb1
                  have nc3 : W7.cell? ⟨g, ixF F (s.q k), none⟩ = some (.int .i64 (s'.o (ixF F (s.q k)))) := by rw [hW7]; simp [go_sem, hpy, cc3]
                  have hz7 : Hid (W7.heap.size = w6.heap.size) := by show _ = _; rw [hW7]; simp [World.setCell]
                  have M7 : BMk w W7 g q' i cp off' cap' (k + 1) { s' with o := updI s'.o (ixF F y) (s'.o (ixF F (s.q k)) + 1) } := by rw [hW7]; exact M6.out.set hiy _
                  have N7 : Hid (W7.heap[wo.heap.size]? = some (.cells #[.int .i64 (s.q k).1, .int .i64 (s.q k).2] 38 (0, 0))) := (hk7 _ lng).trans N6.out
                  have HW7 := hide hW7
                  clear hW7
                  refine mix_store _ W7 rfl rfl (by rw [HW7.out]; go_simp) ⟨⟨ny0, ny1⟩, ⟨nc0', nc1'⟩, nc3⟩ ?_
                  go_simp
                  refine wpMix_nil ?_
                  have HS7 : Hid (pshN F n (s.q k) (d + 1) s = ⟨updI s'.o (ixF F y) (s'.o (ixF F (s.q k)) + 1), updP s'.q s'.m y, s'.m + 1⟩) := by
                    show _ = _
                    rw [pshN, ← HS.out, psh, pshB, HY.out, show opP F n y = true from e1, HE2.out]
                    rfl
                  have hLm := HL2.out
                  have M8 : BMk w (W7.alloc (.cells #[.int .i64 y.1, .int .i64 y.2] 38)) g q' i cp off' cap' (k + 1) { s' with o := updI s'.o (ixF F y) (s'.o (ixF F (s.q k)) + 1) } := M7.below ((Below.refl _ _).alloc (Nat.le_refl _) _)
                  have hq8 : Tl (W7.alloc (.cells #[.int .i64 y.1, .int .i64 y.2] 38)) q' 2 off' l' cap' (fun j => iiC (qR s') (qC s') (k + 1 + j)) := by
                    have h := M8.que
                    simp only at h
                    rw [show s'.m - (k + 1) = l' by omega] at h
                    exact h
                  obtain ⟨q2, off2, cap2, W9, hrun, ht9, hg9, hq9⟩ := run_append_tl (P := Tryd.prog) 26 26 38 ii _ 2 16 Tryd.underlying26 hii iz0 iz1 iz2 rfl (by decide) hq8 (c' := fun j => iiC (qR ⟨updI s'.o (ixF F y) (s'.o (ixF F (s.q k)) + 1), updP s'.q s'.m y, s'.m + 1⟩) (qC ⟨updI s'.o (ixF F y) (s'.o (ixF F (s.q k)) + 1), updP s'.q s'.m y, s'.m + 1⟩) (k + 1 + j)) ⟨W7.heap.size, 0, none⟩ 1
                    (fun j u hu => by
                      rw [Addr.add_lit, Nat.zero_add]
                      refine (World.cell?_alloc_new _ _ _ _).trans ?_
                      rw [← hLm] at hu
                      match j, hu with
                      | 0, hu => simpa [List.range, List.range.loop, iiC, qR, updP] using hu
                      | 1, hu => simpa [List.range, List.range.loop, iiC, qC, updP] using hu)
                    (fun j hj => by unfold iiC; split <;> rfl)
                    (fun a j ha hj => by
                      have : ¬ k + 1 + a = s'.m := by omega
                      simp only [iiC, qR, qC, updP, this, if_false])
                    (by unfold maxLen; omega) (by omega)
                  have HM9 : Hid (BMk w W9 g q2 i cp off2 cap2 (k + 1) ⟨updI s'.o (ixF F y) (s'.o (ixF F (s.q k)) + 1), updP s'.q s'.m y, s'.m + 1⟩) := M8.push (by simp only; rw [show s'.m + 1 - (k + 1) = l' + 1 by omega]; exact ht9) hg9 hq9
                  have hz9 := hg9.size
                  have hz76 := hz7.out
                  have N9 : Hid (W9.heap[wo.heap.size]? = some (.cells #[.int .i64 (s.q k).1, .int .i64 (s.q k).2] 38 (0, 0))) := (hg9.block _ (by simp; omega) (fun e => hnq (by injection e))).trans ((Deep.blk_alloc_lt _ _ _ (by omega)).trans N7.out)
                  have hnq2 : wo.heap.size ≠ q2 := by simp at hq9; omega
                  have hil9 : wo.heap.size < W9.heap.size := by simp at hz9; omega
                  have hrun' : (Builtin.append_ #[26, 26] 26 #[.slice (some ⟨q', off', none⟩) l' cap', .slice (some ⟨W7.heap.size, 0, none⟩) 1 1]).run Tryd.prog (W7.alloc (.cells #[.int .i64 y.1, .int .i64 y.2] 38)) = .ok (.slice (some ⟨q2, off2, none⟩) (l' + 1) cap2) W9 := hrun
                  have HRUN := hide hrun'
                  clear hrun hrun' ht9 M7 M8 hk7 hq9 hg9 hq8 hLm oc of ca0 ca1 cb0 cb1 cc3 nc0' nc1' nc3 zo hz76 hz9
                  go_wp2_with (at_builtin; refine Lib.wpList_append_run _ rfl _ _ _ _ rfl _ _ rfl rfl _ _ HRUN.out ?_)
                  go_wp2_with fail
                  go_roundg (4 - d)
                  case measure => omega
                  case rel => exact ⟨d + 1, l' + 1, q2, off2, cap2, _, by omega, by omega, by go_num, rfl, by have := HL2.out; show s'.m + 1 = _; omega, HS7.out.symm, HM9, N9, hng, hnq2, hil9⟩
            · obtain rfl : d = 4 := by omega
              go_wp2_with fail
              go_roundg (i - (k + 1))
              case measure => omega
              case rel => exact ⟨k + 1, l', f, q', off', cap', s', rfl, HL'.out, by omega, by omega, HI'.out, by show _ = _; rw [HS.out, ← bfs_next hkm]; exact HB.out, HM'.out⟩
        · obtain rfl : l = 0 := by omega
          have hkm : ¬ k < s.m := by omega
          have HE : Hid (s = bsF F n (r, c)) := by show _ = _; rw [← HB.out, bfs_done hkm]
          clear hkl'
          go_wp2_with fail
          go_ret
          refine ⟨g, cp, rfl, ?_, HM.out.gl, HM.out.gs, HM.out.bel⟩
          have h := HM.out.out
          rw [HE.out] at h
          exact h

end Go.Proofs.YtpckhpkbdanjoaaDoor

/-
  Regions that draw their order, two operations that write at choice: a tree of orders.-/
namespace Go.Proofs.YtpckhpkbdanjoaaDoor
set_option linter.unusedVariables false
set_option linter.unusedSimpArgs false
open Go

inductive MT where
  | nil : MT
  | step (k : Nat) (b : Bool) (t : MT) : MT
  | fork (i : Nat) (s : MT) (j : Nat) (t : MT) : MT
def MT.len : MT → Nat
  | .nil => 0
  | .step _ _ t => t.len + 1
  | .fork _ s _ _ => s.len + 1
section
variable {P : Program} {ops : Array Oper} {md : Region.Mode} {C : World → Prop} {Q : Act → World → Prop}
def MT.from (md : Region.Mode) (ops : Array Oper) : MT → Array Bool → Bool
  | .nil, listed => (Region.ready md ops listed).isEmpty
  | .step k b r, listed => (if b then (Region.ready md ops listed).contains k && Region.free md ops listed k else Region.ready md ops listed == [k]) && r.from md ops (listed.setIfInBounds k true)
  | .fork i s j t, listed => Region.ready md ops listed == [i, j] && (s.len == t.len) && s.from md ops (listed.setIfInBounds i true) && t.from md ops (listed.setIfInBounds j true)
def wpMT (P : Program) (ops : Array Oper) (C : World → Prop) (Q : Act → World → Prop) : MT → Act → World → Prop
  | .nil, a, w => Q a w
  | .step k true r, a, w => ∃ o v, ops[k]? = some o ∧ YieldsAll P ops C o v a ∧ wpMT P ops C Q r (a.put o.dst v) w
  | .step k false r, a, w => eOp P ops k (fun a' w' => C w' ∧ wpMT P ops C Q r a' w') a w
  | .fork i s j t, a, w => eOp P ops i (fun a' w' => C w' ∧ wpMT P ops C Q s a' w') a w ∧ eOp P ops j (fun a' w' => C w' ∧ wpMT P ops C Q t a' w') a w
theorem wpAnyM_tree (hs : Region.noSelect ops = true) : ∀ (r : MT) (listed : Array Bool) (a : Act) (w : World), C w → r.from md ops listed = true → wpMT P ops C Q r a w → wpAnyM P md ops C Q r.len listed a w
  | .nil, _, _, _, _, hB, h => ⟨by simpa [MT.from] using hB, h⟩
  | .step k true r, listed, a, w, hC, hB, h => by
    simp only [MT.from, if_true, Bool.and_eq_true] at hB
    obtain ⟨⟨hr, hf⟩, hB'⟩ := hB
    obtain ⟨o, v, ho, hy, hK⟩ := h
    exact wpAnyM_first ho (Region.noSelect_spec hs) r.len listed a w hC (Region.free_spec ho hf) (by simpa using hr) hy (wpAnyM_tree hs r _ _ _ hC hB' hK)
  | .step k false r, listed, a, w, hC, hB, h => by
    simp only [MT.from, Bool.false_eq_true, if_false, Bool.and_eq_true, beq_iff_eq] at hB
    obtain ⟨hr, hB'⟩ := hB
    refine ⟨fun h0 => (by rw [hr] at h0; cases h0), fun i hi => ?_⟩
    rw [hr] at hi
    obtain rfl : i = k := by simpa using hi
    exact eOp_mono (fun a' w' h' => ⟨h'.1, wpAnyM_tree hs r _ a' w' h'.1 hB' h'.2⟩) h
  | .fork i s j t, listed, a, w, hC, hB, h => by
    simp only [MT.from, Bool.and_eq_true, beq_iff_eq] at hB
    obtain ⟨⟨⟨hr, hl⟩, hB1⟩, hB2⟩ := hB
    refine ⟨fun h0 => (by rw [hr] at h0; cases h0), fun k hk => ?_⟩
    rw [hr] at hk
    simp only [List.mem_cons, List.mem_nil_iff, or_false] at hk
    rcases hk with rfl | rfl
    · exact eOp_mono (fun a' w' h' => ⟨h'.1, wpAnyM_tree hs s _ a' w' h'.1 hB1 h'.2⟩) h.1
    · refine eOp_mono (fun a' w' h' => ⟨h'.1, ?_⟩) h.2
      rw [hl]
      exact wpAnyM_tree hs t _ a' w' h'.1 hB2 h'.2
theorem wp_region_tree {id : Nat} {Q : Exit → Act → World → Prop} {a : Act} {w : World} {l : List Oper} (r : MT) (C : World → Prop) (hm : P.follows .mixedOrders = true) (hs : Region.noSelect l.toArray = true) (hl : r.len = l.toArray.size)
    (hB : r.from .any l.toArray (Array.replicate l.toArray.size false) = true) (hC : C { w with drawn := w.drawn + 1 })
    (h : wpMT P l.toArray C (fun a' w' => Q .normal a' w') r a { w with drawn := w.drawn + 1 }) : (Code.region id l.toArray true).wp P Q a w := by
  refine wp_region_any hm (wpAny_of_M (C := C) (Q := fun a' w' => Q .normal a' w') (fun _ _ h => h) _ _ _ _ ?_)
  rw [← hl]
  exact wpAnyM_tree hs r _ a _ hC (by rw [hl]; exact hB) h
theorem tree_look {k : Nat} {r : MT} {a : Act} {w : World} (o : Oper) (v : Value) (hk : ops[k]? = some o) (hw : Region.wanted o (yielded ops a.tmps) = true) (hv : ∀ w, C w → (execOp a.eval o).run P w = .ok (.value v) w)
    (h : wpMT P ops C Q r (a.put o.dst v) w) : wpMT P ops C Q (.step k true r) a w := ⟨o, v, hk, .inl ⟨hw, hv⟩, h⟩
theorem tree_value {k : Nat} {r : MT} {a : Act} {w : World} (o : Oper) (v : Value) (w' : World) (hk : ops[k]? = some o) (hw : Region.wanted o (yielded ops a.tmps) = true) (hv : (execOp a.eval o).run P w = .ok (.value v) w') (hC : C w')
    (h : wpMT P ops C Q r (a.put o.dst v) w') : eOp P ops k (fun a' w' => C w' ∧ wpMT P ops C Q r a' w') a w := by
  unfold eOp
  simp only [hk, hw, if_true, hv, goesUpon]
  exact ⟨hC, h⟩
theorem wpMT_eff {k : Nat} {r : MT} {a : Act} {w : World} (h : eOp P ops k (fun a' w' => C w' ∧ wpMT P ops C Q r a' w') a w) : wpMT P ops C Q (.step k false r) a w := h
theorem wpMT_fork {i j : Nat} {s t : MT} {a : Act} {w : World} (h : eOp P ops i (fun a' w' => C w' ∧ wpMT P ops C Q s a' w') a w) (h' : eOp P ops j (fun a' w' => C w' ∧ wpMT P ops C Q t a' w') a w) : wpMT P ops C Q (.fork i s j t) a w := ⟨h, h'⟩
theorem wpMT_nil {a : Act} {w : World} (h : Q a w) : wpMT P ops C Q .nil a w := h
end

end Go.Proofs.YtpckhpkbdanjoaaDoor

/-
  A box of two integers; two more steps of a region that draws its order by a tree.-/
namespace Go.Proofs.YtpckhpkbdanjoaaDoor
set_option linter.unusedVariables false
set_option linter.unusedSimpArgs false
open Go Go.RowKit Go.Deep

theorem tree_call {P : Program} {ops : Array Oper} {C : World → Prop} {Q : Act → World → Prop} {k : Nat} {r : MT} {a : Act} {w : World} (o : Oper) (f : FuncId) (args : Array Value) (hk : ops[k]? = some o) (hw : Region.wanted o (yielded ops a.tmps) = true) (hv : (execOp a.eval o).run P w = .ok (.enter f args) w)
    (h : Calls P f args w fun e w'' => ∃ v, e = .returned v ∧ C w'' ∧ wpMT P ops C Q r (a.put o.dst v) w'') : eOp P ops k (fun a' w' => C w' ∧ wpMT P ops C Q r a' w') a w := by
  unfold eOp
  simp only [hk, hw, if_true, hv, goesUpon]
  exact h
theorem tree_store {P : Program} {ops : Array Oper} {C : World → Prop} {Q : Act → World → Prop} {k : Nat} {r : MT} {a : Act} {w : World} (o : Oper) (w' : World) (hk : ops[k]? = some o) (hw : Region.wanted o (yielded ops a.tmps) = true) (hv : (execOp a.eval o).run P w = .ok .skip w') (hC : C w')
    (h : wpMT P ops C Q r (a.put o.dst undef) w') : eOp P ops k (fun a' w' => C w' ∧ wpMT P ops C Q r a' w') a w := by
  unfold eOp
  simp only [hk, hw, if_true, hv, goesUpon]
  exact ⟨hC, h⟩

theorem wp_region_mixd {P : Program} {id : Nat} {Q : Exit → Act → World → Prop} {a : Act} {w : World} {l : List Oper} (r : List (Nat × Bool)) (C : World → Prop) (hm : P.follows .mixedOrders = true) (hs : Region.noSelect l.toArray = true) (hl : r.length = l.toArray.size)
    (hB : mixFrom .any l.toArray r (Array.replicate l.toArray.size false) = true) (hC : C w.drew)
    (h : ∀ W, Hid (W = w.drew) → C W → wpMix P l.toArray C (fun a' w' => Q .normal a' w') r a W) : (Code.region id l.toArray true).wp P Q a w :=
  wp_region_mix r C hm hs hl hB hC (h _ (hide rfl) hC)

/-- A box of two integers. -/
structure Bx2 (w : World) (b : Nat) (x y : Int) : Prop where
  c0 : w.cell? ⟨b, 0, none⟩ = some (.int .i64 x)
  c1 : w.cell? ⟨b, 1, none⟩ = some (.int .i64 y)
  fr : ∀ o, w.frozen? ⟨b, o, none⟩ = false
  lt : b < w.heap.size
section
variable {w w' : World} {b b' : Nat} {x y x' y' : Int}
theorem Bx2.keep (h : Bx2 w b x y) (hk : w'.heap[b]? = w.heap[b]?) (hs : b < w'.heap.size) : Bx2 w' b x y :=
  ⟨(World.cell?_of_block (a := ⟨b, 0, none⟩) hk).trans h.c0, (World.cell?_of_block (a := ⟨b, 1, none⟩) hk).trans h.c1, fun o => (World.frozen?_of_block (a := ⟨b, o, none⟩) hk).trans (h.fr o), hs⟩
theorem Bx2.below {B : Nat} (h : Bx2 w b x y) (hb : Below B w w') (hB : b < B) : Bx2 w' b x y := h.keep (hb.block b hB) (Nat.lt_of_lt_of_le h.lt hb.size)
theorem Bx2.new (w : World) (x y : Int) : Bx2 (w.alloc (.cells #[.int .i64 x, .int .i64 y] 38)) w.heap.size x y :=
  ⟨World.cell?_alloc_new _ _ _ _, World.cell?_alloc_new _ _ _ _, fun o => by simp only [World.frozen?]; rw [heap_alloc_new]; simp, by simp⟩
theorem Bx2.set (h : Bx2 w b x y) (x' y' : Int) : Bx2 ((w.setCell ⟨b, 0, none⟩ (.int .i64 x')).setCell ⟨b, 1, none⟩ (.int .i64 y')) b x' y' := by
  have h0 := h.c0
  have h1 := h.c1
  exact ⟨by simp [go_sem, h0, h1], by simp [go_sem, h0, h1], fun o => by simp [go_sem, h.fr], by simp [World.setCell]; exact h.lt⟩
theorem Bx2.other (h : Bx2 w b x y) (hne : b ≠ b') (u v : Value) : Bx2 ((w.setCell ⟨b', 0, none⟩ u).setCell ⟨b', 1, none⟩ v) b x y :=
  h.keep ((Deep.blk_setCell_other _ _ _ _ hne).trans (Deep.blk_setCell_other _ _ _ _ hne)) (by simp [World.setCell]; exact h.lt)
end

end Go.Proofs.YtpckhpkbdanjoaaDoor

/-
  Walks: what the reference draws of cells of a floor: whatever it is (printed by gen_drwg.py).-/
namespace Go.Proofs.YtpckhpkbdanjoaaDoor
set_option linter.unusedVariables false
set_option linter.unusedSimpArgs false
open Go.RowKit

theorem Sl.onlyF {w w' : World} {lo hi sz n g : Nat} {v : Value} {c : Nat → Nat → Value} (h : Sl w lo hi sz v n c) (hO : Only g (g + 1) w w') (hg : g < lo) (hs : hi ≤ w.heap.size) : Sl w' lo hi sz v n c :=
  h.keep fun q h1 h2 => hO.block q (by omega) (by omega)
theorem sl_first {w : World} {lo hi n blk off cap : Nat} {F : Nat → ByteArray} (h : Sl w lo hi 1 (.slice (some ⟨blk, off, none⟩) n cap) n (sC F)) (hn : 0 < n) : w.cell? ⟨blk, off, none⟩ = some (.string (F 0)) := by
  obtain ⟨A, c, e, hc, hA⟩ := h.open_
  injection e with e1 _ _
  subst e1
  obtain ⟨b', o', e2, _, _, h3⟩ := hA hn
  injection e2 with e2
  injection e2 with e3 e4
  subst e3 e4
  exact h3 0 0 hn (by omega)
theorem flB_n {F : Nat → ByteArray} {n : Nat} (h : flB F n = true) : 1 ≤ n ∧ n ≤ 12 := ⟨(flB_facts h).1, (flB_facts h).2.1⟩
set_option maxRecDepth 100000 in
set_option maxHeartbeats 6400000 in
theorem cellOf_any (F : Nat → ByteArray) (n lo hi : Nat) (v : Value) (g m : Nat) (w : World) (h : Cu w g m) (hm : m < 100000000) (hv : Sl w lo hi 1 v n (sC F)) (hgl : g < lo) (hhi : hi ≤ w.heap.size) (hf : ffits F n) :
    Calls Tryd.prog 74 #[.pointer (some ⟨g, 0, none⟩), v] w fun e w' => ∃ x y : Int, e = .returned (.agg #[.int .i64 x, .int .i64 y]) ∧ Cu w' g (m + 200) ∧ Only g (g + 1) w w' := by
  have hg := h.lt
  have h0 : Cu (w.alloc (.cells #[.int .i64 0, .int .i64 0] 38)) g m := h.alloc _
  obtain ⟨A, cap, rfl, hcap, hA⟩ := id hv.open_
  have HV := hide hv
  clear hv
  go_enter Tryd.func74, Tryd.ntmps74
  go_wp2_with fail
  refine (pick_any g _ _ _ h0 (by omega)).mono ?_
  rintro e w1 ⟨v1, rfl, hv1, hC1, hO1⟩
  have hz1 := hO1.size
  simp at hz1
  have R1 := (BxI.new w 0 0 38).only hO1 (by omega)
  have O1 := ((Only.refl g (g + 1) w).alloc _).trans hO1
  clear hO1 h0
  go_wp2_with fail
  refine (pick_any g _ _ _ hC1 (by omega)).mono ?_
  rintro e w2 ⟨v2, rfl, hv2, hC2, hO2⟩
  have hz2 := hO2.size
  have R2 := R1.only hO2 (by omega)
  have O2 := O1.trans hO2
  clear R1 O1 hO2 hC1 hv1 hv2
  go_wp2_with fail
  obtain ⟨b5, hb5⟩ : ∃ b5, b5 = w2.heap.size := ⟨_, rfl⟩
  obtain ⟨W3, hW3⟩ : ∃ W, W = w2.alloc (.cells #[.int .i64 v1, .int .i64 v2] 38) := ⟨_, rfl⟩
  have S3 : BxI W3 b5 v1 v2 := by rw [hW3, hb5]; exact BxI.new _ _ _ _
  have R3 : BxI W3 w.heap.size 0 0 := by rw [hW3]; exact R2.alloc _
  have C3 : Cu W3 g (m + 4) := by rw [hW3]; exact hC2.alloc _
  have O3 : Only g (g + 1) w W3 := by rw [hW3]; exact O2.alloc _
  have hz3 := O3.size
  have hz4 : b5 < W3.heap.size := S3.lt
  have hz5 : w.heap.size < b5 := by omega
  rw [← hW3, ← hb5]
  clear R2 hW3 hb5 O2 hC2
  have V3 : Sl W3 lo hi 1 (.slice A n cap) n (sC F) := HV.out.onlyF O3 hgl hhi
  refine (seGood_any F n lo hi _ _ V3 (by omega) hf).mono ?_
  rintro e w4 ⟨rfl, hb4⟩
  have hz6 := hb4.size
  have S4 := S3.keep (hb4.block b5 hz4) hb4.size
  have R4 := R3.keep (hb4.block w.heap.size (by omega)) hb4.size
  have C4 := C3.below hb4 (Nat.le_refl _)
  have O4 := O3.then_below hb4
  clear S3 R3 C3 O3 V3 hb4
  cases hgd : flB F n with
  | false =>
    go_wp2_with fail
    refine (one_any g _ _ _ C4 (by omega)).mono ?_
    rintro e w7 ⟨b7, rfl, hC7, hO7⟩
    have hz7 := hO7.size
    have S7 := S4.only hO7 (by omega)
    have R7 := R4.only hO7 (by omega)
    have O7 := O4.trans hO7
    clear S4 R4 C4 O4 hO7
    have hne : w.heap.size ≠ b5 := by omega
    cases b7 with
    | false =>
      obtain ⟨p0, p1, pf, pl⟩ := S7
      obtain ⟨q0, q1, qf, ql⟩ := R7
      go_wp2_with fail
      exact bodyPost_ret (v := .agg #[.int .i64 v1, .int .i64 v2]) (by simp [results, Tryd.results74, go_sem, *]) rfl ⟨_, _, rfl, ((((hC7.set (p := ⟨w.heap.size, 0, none⟩) (by show g < w.heap.size; omega) _).set (p := ⟨w.heap.size, 1, none⟩) (by show g < w.heap.size; omega) _)).more (by omega)), (((O7.setNew (a := ⟨w.heap.size, 0, none⟩) (by show w.heap.size ≤ w.heap.size; omega) _).setNew (a := ⟨w.heap.size, 1, none⟩) (by show w.heap.size ≤ w.heap.size; omega) _))⟩
    | true =>
      go_wp2_with fail
      refine (among_new g _ _ _ _ _ _ hC7 (by first | (with_reducible rfl) | simp) (by omega) (by rfl) (by decide) (by decide) (by simp [isI])).mono ?_
      rintro e wz ⟨vz, rfl, hMz, hCz, hOz⟩
      have hzz := hOz.size
      have Sz := S7.only hOz (by omega)
      have Rz := R7.only hOz (by omega)
      have Oz := O7.trans hOz
      clear S7 R7 hC7 O7 hOz hMz
      have CZ := hCz.set (p := ⟨b5, 0, none⟩) (by show g < b5; omega) (.int .i64 vz)
      have OZ := Oz.setNew (a := ⟨b5, 0, none⟩) (by show w.heap.size ≤ b5; omega) (.int .i64 vz)
      obtain ⟨p0, p1, pf, pl⟩ := Sz
      obtain ⟨q0, q1, qf, ql⟩ := Rz
      go_wp2_with fail
      exact bodyPost_ret (v := .agg #[.int .i64 vz, .int .i64 v2]) (by simp [results, Tryd.results74, go_sem, *]) rfl ⟨_, _, rfl, ((((CZ.set (p := ⟨w.heap.size, 0, none⟩) (by show g < w.heap.size; omega) _).set (p := ⟨w.heap.size, 1, none⟩) (by show g < w.heap.size; omega) _)).more (by omega)), (((OZ.setNew (a := ⟨w.heap.size, 0, none⟩) (by show w.heap.size ≤ w.heap.size; omega) _).setNew (a := ⟨w.heap.size, 1, none⟩) (by show w.heap.size ≤ w.heap.size; omega) _))⟩
  | true =>
    have HG := hide hgd
    obtain ⟨hn1, hn12⟩ := flB_n hgd
    clear hgd
    go_wp2_with fail
    go_loopg [6] 22 (fun gn kv wr => ∃ (k : Nat) (x y : Int), k ≤ 20 ∧ 20 - k < gn ∧ kv = .int .i64 k ∧ BxI wr b5 x y ∧ BxI wr w.heap.size 0 0 ∧ Cu wr g (m + 4 + 4 * k) ∧ Only g (g + 1) w wr)
    case atStart => exact ⟨0, v1, v2, by omega, by omega, rfl, S4, R4, C4, O4⟩
    case round =>
      clear S4 R4 C4 O4
      obtain ⟨k, x, y, hk, hgn, rfl, S5, R5, C5, O5⟩ := hrel
      have hzr := O5.size
      have hb5r := S5.lt
      by_cases hk20 : k < 20
      · have V5 : Sl wr lo hi 1 (.slice A n cap) n (sC F) := HV.out.onlyF O5 hgl hhi
        obtain ⟨p0, p1, pf, pl⟩ := id S5
        go_wp2_with fail
        refine (seOpen_any F n x y lo hi _ _ V5 (by omega) HG.out).mono ?_
        rintro e w6 ⟨rfl, hb6⟩
        have hz7 := hb6.size
        have S6 := S5.keep (hb6.block b5 hb5r) hb6.size
        have R6 := R5.keep (hb6.block w.heap.size (by omega)) hb6.size
        have C6 := C5.below hb6 (Nat.le_refl _)
        have O6 := O5.then_below hb6
        clear S5 R5 C5 O5 V5 hb6 p0 p1 pf pl
        cases hop : opB F n x y with
        | true =>
          go_wp2_with fail
          refine (one_any g _ _ _ C6 (by omega)).mono ?_
          rintro e w7 ⟨b7, rfl, hC7, hO7⟩
          have hz7 := hO7.size
          have S7 := S6.only hO7 (by omega)
          have R7 := R6.only hO7 (by omega)
          have O7 := O6.trans hO7
          clear S6 R6 C6 O6 hO7
          have hne : w.heap.size ≠ b5 := by omega
          cases b7 with
          | false =>
            obtain ⟨p0, p1, pf, pl⟩ := S7
            obtain ⟨q0, q1, qf, ql⟩ := R7
            go_wp2_with fail
            exact bodyPost_ret (v := .agg #[.int .i64 x, .int .i64 y]) (by simp [results, Tryd.results74, go_sem, *]) rfl ⟨_, _, rfl, ((((hC7.set (p := ⟨w.heap.size, 0, none⟩) (by show g < w.heap.size; omega) _).set (p := ⟨w.heap.size, 1, none⟩) (by show g < w.heap.size; omega) _)).more (by omega)), (((O7.setNew (a := ⟨w.heap.size, 0, none⟩) (by show w.heap.size ≤ w.heap.size; omega) _).setNew (a := ⟨w.heap.size, 1, none⟩) (by show w.heap.size ≤ w.heap.size; omega) _))⟩
          | true =>
            go_wp2_with fail
            refine (among_new g _ _ _ _ _ _ hC7 (by first | (with_reducible rfl) | simp) (by omega) (by rfl) (by decide) (by decide) (by simp [isI])).mono ?_
            rintro e wz ⟨vz, rfl, hMz, hCz, hOz⟩
            have hzz := hOz.size
            have Sz := S7.only hOz (by omega)
            have Rz := R7.only hOz (by omega)
            have Oz := O7.trans hOz
            clear S7 R7 hC7 O7 hOz hMz
            have CZ := hCz.set (p := ⟨b5, 0, none⟩) (by show g < b5; omega) (.int .i64 vz)
            have OZ := Oz.setNew (a := ⟨b5, 0, none⟩) (by show w.heap.size ≤ b5; omega) (.int .i64 vz)
            obtain ⟨p0, p1, pf, pl⟩ := Sz
            obtain ⟨q0, q1, qf, ql⟩ := Rz
            go_wp2_with fail
            exact bodyPost_ret (v := .agg #[.int .i64 vz, .int .i64 y]) (by simp [results, Tryd.results74, go_sem, *]) rfl ⟨_, _, rfl, ((((CZ.set (p := ⟨w.heap.size, 0, none⟩) (by show g < w.heap.size; omega) _).set (p := ⟨w.heap.size, 1, none⟩) (by show g < w.heap.size; omega) _)).more (by omega)), (((OZ.setNew (a := ⟨w.heap.size, 0, none⟩) (by show w.heap.size ≤ w.heap.size; omega) _).setNew (a := ⟨w.heap.size, 1, none⟩) (by show w.heap.size ≤ w.heap.size; omega) _))⟩
        | false =>
          have V6 : Sl w6 lo hi 1 (.slice A n cap) n (sC F) := HV.out.onlyF O6 hgl hhi
          obtain ⟨blk, off, rfl, a1, a2, _⟩ := hA (by omega)
          go_wp2_with fail
          refine wp_region_mixd [(0, true), (1, true), (2, true), (4, true), (5, true), (6, true), (7, true), (8, true), (3, false), (9, false), (10, true), (11, false)] (fun W' => Sl W' lo hi 1 (.slice (some ⟨blk, off, none⟩) n cap) n (sC F)) (by kernel_rfl) (by kernel_rfl) (by kernel_rfl) (by kernel_rfl) V6 ?_
          intro W6 hW6 V6'
          have S7 : BxI W6 b5 x y := by rw [hW6.out]; exact S6.keep rfl (Nat.le_refl _)
          have R7 : BxI W6 w.heap.size 0 0 := by rw [hW6.out]; exact R6.keep rfl (Nat.le_refl _)
          have C7 : Cu W6 g (m + 4 + 4 * k) := by rw [hW6.out]; exact C6
          have O7 : Only g (g + 1) w W6 := by rw [hW6.out]; exact O6.drew
          have hz8 := O7.size
          have hb57 := S7.lt
          clear S6 R6 C6 O6 V6 hW6 V6'
          refine mix_look _ (.pointer (some ⟨g, 0, none⟩)) rfl rfl (fun w' _ => (by go_simp)) ?_
          go_simp
          refine mix_look _ (.slice (some ⟨blk, off, none⟩) n cap) rfl rfl (fun w' _ => (by go_simp)) ?_
          go_simp
          refine mix_look _ (.int .i64 n) rfl rfl (fun w' _ => (by go_simp)) ?_
          go_simp
          refine mix_look _ (.pointer (some ⟨g, 0, none⟩)) rfl rfl (fun w' _ => (by go_simp)) ?_
          go_simp
          refine mix_look _ (.slice (some ⟨blk, off, none⟩) n cap) rfl rfl (fun w' _ => (by go_simp)) ?_
          go_simp
          have hn0 : 0 < n := by omega
          refine mix_look _ (.pointer (some ⟨blk, off, none⟩)) rfl rfl (fun w' _ => (by go_simp)) ?_
          go_simp
          refine mix_look _ (.string (F 0)) rfl rfl (fun w' hw' => (by have h0 := sl_first hw' hn0; go_simp)) ?_
          go_simp
          refine mix_look _ (.int .i64 ((F 0).size : Nat)) rfl rfl (fun w' _ => (by go_simp)) ?_
          go_simp
          refine mix_call _ 81 #[.pointer (some ⟨g, 0, none⟩), .int .i64 n] rfl rfl (by go_simp) ?_
          refine (pick_any g _ _ _ C7 (by omega)).mono ?_
          rintro e w8 ⟨v8, rfl, _, C8, hO8⟩
          have S8 := S7.only hO8 (by omega)
          have R8 := R7.only hO8 (by omega)
          have O8 := O7.trans hO8
          have hz9 := hO8.size
          clear S7 R7 C7 O7 hO8
          refine ⟨_, rfl, HV.out.onlyF O8 hgl hhi, ?_⟩
          go_simp
          refine mix_call _ 81 #[.pointer (some ⟨g, 0, none⟩), .int .i64 ((F 0).size : Nat)] rfl rfl (by go_simp) ?_
          refine (pick_any g _ _ _ C8 (by omega)).mono ?_
          rintro e w9 ⟨v9, rfl, _, C9, hO9⟩
          have S9 := S8.only hO9 (by omega)
          have R9 := R8.only hO9 (by omega)
          have O9 := O8.trans hO9
          have hz10 := hO9.size
          clear S8 R8 C8 O8 hO9
          refine ⟨_, rfl, HV.out.onlyF O9 hgl hhi, ?_⟩
          go_simp
          refine mix_look _ (.agg #[.int .i64 v8, .int .i64 v9]) rfl rfl (fun w' _ => (by go_simp)) ?_
          go_simp
          have hne2 : w.heap.size ≠ b5 := by omega
          have S10 : BxI ((w9.setCell ⟨b5, 0, none⟩ (.int .i64 v8)).setCell ⟨b5, 1, none⟩ (.int .i64 v9)) b5 v8 v9 := (S9.set0 v8).set1 v9
          have R10 : BxI ((w9.setCell ⟨b5, 0, none⟩ (.int .i64 v8)).setCell ⟨b5, 1, none⟩ (.int .i64 v9)) w.heap.size 0 0 := (R9.other hne2 _ _).other hne2 _ _
          have C10 : Cu ((w9.setCell ⟨b5, 0, none⟩ (.int .i64 v8)).setCell ⟨b5, 1, none⟩ (.int .i64 v9)) g (m + 4 + 4 * k + 2 + 2) := (C9.set (p := ⟨b5, 0, none⟩) (by show g < b5; omega) _).set (p := ⟨b5, 1, none⟩) (by show g < b5; omega) _
          have O10 : Only g (g + 1) w ((w9.setCell ⟨b5, 0, none⟩ (.int .i64 v8)).setCell ⟨b5, 1, none⟩ (.int .i64 v9)) := (O9.setNew (a := ⟨b5, 0, none⟩) (by show w.heap.size ≤ b5; omega) _).setNew (a := ⟨b5, 1, none⟩) (by show w.heap.size ≤ b5; omega) _
          obtain ⟨p0, p1, pf, pl⟩ := S9
          refine mix_store _ ((w9.setCell ⟨b5, 0, none⟩ (.int .i64 v8)).setCell ⟨b5, 1, none⟩ (.int .i64 v9)) rfl rfl (by go_simp) (HV.out.onlyF O10 hgl hhi) ?_
          clear p0 p1 pf pl R9 C9 O9
          go_simp
          refine wpMix_nil ?_
          obtain ⟨WN, hWN⟩ : ∃ WN, WN = (w9.setCell ⟨b5, 0, none⟩ (.int .i64 v8)).setCell ⟨b5, 1, none⟩ (.int .i64 v9) := ⟨_, rfl⟩
          rw [← hWN] at S10 R10 C10 O10 ⊢
          clear hWN
          go_wp2_with fail
          go_roundg (20 - k)
          case measure => omega
          case rel => exact ⟨k + 1, v8, v9, by omega, by omega, by go_num, S10, R10, C10.more (by omega), O10⟩
      · obtain rfl : k = 20 := by omega
        go_wp2_with fail
        refine (one_any g _ _ _ C5 (by omega)).mono ?_
        rintro e w7 ⟨b7, rfl, hC7, hO7⟩
        have hz7 := hO7.size
        have S7 := S5.only hO7 (by omega)
        have R7 := R5.only hO7 (by omega)
        have O7 := O5.trans hO7
        clear S5 R5 C5 O5 hO7
        have hne : w.heap.size ≠ b5 := by omega
        cases b7 with
        | false =>
          obtain ⟨p0, p1, pf, pl⟩ := S7
          obtain ⟨q0, q1, qf, ql⟩ := R7
          go_wp2_with fail
          exact bodyPost_ret (v := .agg #[.int .i64 x, .int .i64 y]) (by simp [results, Tryd.results74, go_sem, *]) rfl ⟨_, _, rfl, ((((hC7.set (p := ⟨w.heap.size, 0, none⟩) (by show g < w.heap.size; omega) _).set (p := ⟨w.heap.size, 1, none⟩) (by show g < w.heap.size; omega) _)).more (by omega)), (((O7.setNew (a := ⟨w.heap.size, 0, none⟩) (by show w.heap.size ≤ w.heap.size; omega) _).setNew (a := ⟨w.heap.size, 1, none⟩) (by show w.heap.size ≤ w.heap.size; omega) _))⟩
        | true =>
          go_wp2_with fail
          refine (among_new g _ _ _ _ _ _ hC7 (by first | (with_reducible rfl) | simp) (by omega) (by rfl) (by decide) (by decide) (by simp [isI])).mono ?_
          rintro e wz ⟨vz, rfl, hMz, hCz, hOz⟩
          have hzz := hOz.size
          have Sz := S7.only hOz (by omega)
          have Rz := R7.only hOz (by omega)
          have Oz := O7.trans hOz
          clear S7 R7 hC7 O7 hOz hMz
          have CZ := hCz.set (p := ⟨b5, 0, none⟩) (by show g < b5; omega) (.int .i64 vz)
          have OZ := Oz.setNew (a := ⟨b5, 0, none⟩) (by show w.heap.size ≤ b5; omega) (.int .i64 vz)
          obtain ⟨p0, p1, pf, pl⟩ := Sz
          obtain ⟨q0, q1, qf, ql⟩ := Rz
          go_wp2_with fail
          exact bodyPost_ret (v := .agg #[.int .i64 vz, .int .i64 y]) (by simp [results, Tryd.results74, go_sem, *]) rfl ⟨_, _, rfl, ((((CZ.set (p := ⟨w.heap.size, 0, none⟩) (by show g < w.heap.size; omega) _).set (p := ⟨w.heap.size, 1, none⟩) (by show g < w.heap.size; omega) _)).more (by omega)), (((OZ.setNew (a := ⟨w.heap.size, 0, none⟩) (by show w.heap.size ≤ w.heap.size; omega) _).setNew (a := ⟨w.heap.size, 1, none⟩) (by show w.heap.size ≤ w.heap.size; omega) _))⟩

end Go.Proofs.YtpckhpkbdanjoaaDoor
