/-
  Texts of this proof, one behind the other (part 7).
-/
import Derived.Test.YtpckhpkbdanjoaaDoorQ6
import Derived.Ground.NamesProg
import Derived.Shelf.Lay
import Derived.Shelf.Strings.Search3
/-
  Walks: the steps from a cell to all cells: the reference's.-/
namespace Go.Proofs.YtpckhpkbdanjoaaDoor
set_option linter.unusedVariables false
set_option linter.unusedSimpArgs false
open Go.RowKit

/-- Memory while the reference reckons: the numbers in block g, what is left of the queue, from the k-th on, in block q. -/
structure BMk (w0 w : World) (g q N co off cap k : Nat) (s : Bs) : Prop where
  out : OwnL w g (g + 1) 3 1 (.slice (some ⟨g, 0, none⟩) N co) N N (fun i => .int .i64 (s.o i))
  que : Tl w q 2 off (s.m - k) cap (fun i => iiC (qR s) (qC s) (k + i))
  gl : w0.heap.size ≤ g
  ql : w0.heap.size ≤ q
  gs : g < w.heap.size
  gq : g ≠ q
  bel : Below w0.heap.size w0 w
section
variable {w0 w w' : World} {g q N co off cap k : Nat} {s : Bs}
theorem BMk.keep (h : BMk w0 w g q N co off cap k s) (h1 : w'.heap[g]? = w.heap[g]?) (h2 : w'.heap[q]? = w.heap[q]?) (hs : w.heap.size ≤ w'.heap.size) (hb : Below w0.heap.size w0 w') : BMk w0 w' g q N co off cap k s :=
  ⟨h.out.keep1 h1, h.que.keep h2 (Nat.lt_of_lt_of_le h.que.lt hs), h.gl, h.ql, Nat.lt_of_lt_of_le h.gs hs, h.gq, hb⟩
theorem BMk.below (h : BMk w0 w g q N co off cap k s) (hb : Below w.heap.size w w') : BMk w0 w' g q N co off cap k s :=
  h.keep (hb.block g h.gs) (hb.block q h.que.lt) hb.size (h.bel.trans (hb.mono h.bel.size))
theorem BMk.cell (h : BMk w0 w g q N co off cap k s) (hk : k < s.m) : w.cell? ⟨q, off, none⟩ = some (.int .i64 (s.q k).1) ∧ w.cell? ⟨q, off + 1, none⟩ = some (.int .i64 (s.q k).2) := by
  have a := h.que.at_ 0 0 (by omega) (by omega)
  have b := h.que.at_ 0 1 (by omega) (by omega)
  simp only [Nat.zero_mul, Nat.add_zero] at a b
  exact ⟨a, b⟩
theorem BMk.num (h : BMk w0 w g q N co off cap k s) {i : Nat} (hi : i < N) : w.cell? ⟨g, i, none⟩ = some (.int .i64 (s.o i)) ∧ w.frozen? ⟨g, i, none⟩ = false := by
  obtain ⟨_, b, c⟩ := h.out.cell (by omega) (o := i) (by omega)
  exact ⟨c hi, b⟩
theorem BMk.set (h : BMk w0 w g q N co off cap k s) {i : Nat} (hi : i < N) (x : Int) : BMk w0 (w.setCell ⟨g, i, none⟩ (.int .i64 x)) g q N co off cap k { s with o := updI s.o i x } := by
  refine ⟨(h.out.set (o := i) (by omega) _).congr fun o _ => ?_, h.que.keep (Deep.blk_setCell_other _ _ _ _ h.gq.symm) (by simp [World.setCell]; exact h.que.lt), h.gl, h.ql, by simp [World.setCell]; exact h.gs, h.gq, h.bel.setCell h.gl _⟩
  simp only [updI]
  split <;> rfl
/-- The first one is taken. -/
theorem BMk.tail (h : BMk w0 w g q N co off cap k s) (hk : k < s.m) : BMk w0 w g q N co (if cap = 1 then off else off + 2) (cap - 1) (k + 1) s := by
  have hq := h.que
  rw [show s.m - k = s.m - (k + 1) + 1 by omega] at hq
  exact ⟨h.out, hq.tail.congr fun i j _ _ => by rw [show k + (i + 1) = k + 1 + i by omega], h.gl, h.ql, h.gs, h.gq, h.bel⟩
theorem BMk.push (h : BMk w0 w g q N co off cap k s) {q' off' cap' : Nat} {p : Int × Int} (ht : Tl w' q' 2 off' (s.m + 1 - k) cap' (fun i => iiC (qR { s with q := updP s.q s.m p, m := s.m + 1 }) (qC { s with q := updP s.q s.m p, m := s.m + 1 }) (k + i))) (hg : w.grownBy w' (some q)) (hq : q' = q ∨ w.heap.size ≤ q') :
    BMk w0 w' g q' N co off' cap' k { s with q := updP s.q s.m p, m := s.m + 1 } := by
  have hgs := h.gs
  refine ⟨h.out.keep1 (hg.block g h.gs (fun e => h.gq (by injection e))), ht, h.gl, ?_, Nat.lt_of_lt_of_le h.gs hg.size, ?_, h.bel.grown hg h.bel.size (fun k hk => by injection hk with e; rw [← e]; exact h.ql)⟩
  · have := h.bel.size
    have := h.ql
    omega
  · have := h.gq
    omega
theorem BMem.bmk (h : BMem w0 w g q N co off cap s) : BMk w0 w g q N co off cap 0 s :=
  ⟨h.out, h.que.congr fun i j _ _ => by rw [Nat.zero_add], h.gl, h.ql, h.gs, h.gq, h.bel⟩
end
theorem rep_row : ∀ i : Nat, List.replicate i (Value.int .i64 (-1)) = rowL (iC (fun _ => -1)) 1 i
  | 0 => rfl
  | i + 1 => by rw [List.replicate_succ', rep_row i, rowL]; rfl
theorem seStep_p (p y : Int × Int) (d : Nat) (w : World) (hy : stp p d = y) (hd : d < 4) (hr : -1000 ≤ p.1) (hr' : p.1 ≤ 1000) (hc : -1000 ≤ p.2) (hc' : p.2 ≤ 1000) :
    Calls Tryd.prog 85 #[.agg #[.int .i64 p.1, .int .i64 p.2], .int .i64 d] w fun e w' => e = .returned (.agg #[.int .i64 y.1, .int .i64 y.2]) ∧ Below w.heap.size w w' := by
  subst hy
  exact seStep_any p.1 p.2 d w hd hr hr' hc hc'
theorem mix_store {P : Program} {ops : Array Oper} {C : World → Prop} {Q : Act → World → Prop} {k : Nat} {r : List (Nat × Bool)} {a : Act} {w : World} (o : Oper) (w' : World) (hk : ops[k]? = some o) (hw : Region.wanted o (yielded ops a.tmps) = true) (hv : (execOp a.eval o).run P w = .ok .skip w') (hC : C w')
    (h : wpMix P ops C Q r (a.put o.dst undef) w') : wpMix P ops C Q ((k, false) :: r) a w := by
  show eOp P ops k _ a w
  unfold eOp
  simp only [hk, hw, if_true, hv, goesUpon]
  exact ⟨hC, h⟩
theorem seIndex_p (F : Nat → ByteArray) (n : Nat) (p : Int × Int) (lo hi : Nat) (v : Value) (w : World) (hv : Sl w lo hi 1 v n (sC F)) (hhi : hi ≤ w.heap.size) (hg : flB F n = true) (ho : opP F n p = true) :
    Calls Tryd.prog 91 #[v, .agg #[.int .i64 p.1, .int .i64 p.2]] w fun e w' => e = .returned (.int .i64 (ixF F p)) ∧ Below w.heap.size w w' := seIndex_any F n p.1 p.2 lo hi v w hv hhi hg ho
set_option maxRecDepth 100000 in
set_option maxHeartbeats 3200000 in
theorem seSteps_any (F : Nat → ByteArray) (n : Nat) (r c : Int) (lo hi : Nat) (v : Value) (w : World) (hv : Sl w lo hi 1 v n (sC F)) (hhi : hi ≤ w.heap.size) (hg : flB F n = true) (ho : opB F n r c = true) :
    Calls Tryd.prog 67 #[v, .agg #[.int .i64 r, .int .i64 c]] w fun e w' => ∃ g co, e = .returned (.slice (some ⟨g, 0, none⟩) (n * (F 0).size) co) ∧ OwnL w' g (g + 1) 3 1 (.slice (some ⟨g, 0, none⟩) (n * (F 0).size) co) (n * (F 0).size) (n * (F 0).size) (fun i => .int .i64 (stF F n (r, c) i)) ∧ w.heap.size ≤ g ∧ g < w'.heap.size ∧ Below w.heap.size w w' := by
  obtain ⟨A, capF, rfl, hcap, hA⟩ := hv.open_
  obtain ⟨g1, g2, g3, g4, _, _⟩ := flB_facts hg
  obtain ⟨blk, offF, rfl, h1, h2, h3⟩ := hA (by omega)
  have c0 : w.cell? ⟨blk, offF, none⟩ = some (.string (F 0)) := by simpa [sC] using h3 0 0 (by omega) (by omega)
  have l0 : blk < w.heap.size := by omega
  have hop : opP F n (r, c) = true := ho
  obtain ⟨N, hN⟩ : ∃ N, N = n * (F 0).size := ⟨_, rfl⟩
  have hN1 : 1 ≤ N ∧ N ≤ 144 := by
    have h5 : n * (F 0).size ≤ 12 * 12 := Nat.mul_le_mul g2 g4
    have h6 : 1 * 1 ≤ n * (F 0).size := Nat.mul_le_mul g1 g3
    omega
  have m1 : (n : Int) * ((F 0).size : Int) = (N : Int) := by rw [hN]; push_cast; rfl
  have m2 : IntKind.i64.wrap ((n : Int) * ((F 0).size : Int)) = (N : Int) := by rw [m1]; exact IntWalk.i64_in _ (by omega)
  have HN := hide hN
  have HI0 : Hid (ixF F (r, c) < N) := by show _ < _; rw [hN]; exact ix_lt (p := (r, c)) ho
  rw [← hN]
  have bd0 := opP_bd hop
  have hixN := HI0.out
  have HG := hide hg
  have HOP := hide hop
  obtain ⟨ii, hii, iz0, iz1, iz2⟩ := info_parts infoCell2
  obtain ⟨ij, hij, jz0, jz1, jz2⟩ := info_parts infoI1
  clear hA hN h3 hg hop ho
  go_enter Tryd.func67, Tryd.ntmps67
  go_wp2_with fail
  go_loopw [5, 6] (fun ov iv wr => ∃ (i : Nat) (A : Option Addr) (cp : Nat), i ≤ N ∧ iv = .int .i64 i ∧ ov = .slice A i cp ∧ Hid (wr.ownsRow (w.heap.size + 1) 3 1 (.slice A i cp) i (List.replicate i (.int .i64 (-1)))) ∧ Below (w.heap.size + 1) (w.alloc (.cells #[.int .i64 r, .int .i64 c] 38)) wr) (fun _ iv _ => N - (intOf iv).toNat)
  case atStart => exact ⟨0, none, 0, by omega, rfl, rfl, World.ownsRow_nil _ _ _ _, Below.refl _ _⟩
  case round =>
    obtain ⟨i, A1, cp, hi1, rfl, rfl, HO, hbr⟩ := hrel
    have hzr := hbr.size
    simp at hzr
    have hbw : Below w.heap.size w wr := ((Below.refl _ _).alloc (Nat.le_refl _) _).trans (hbr.mono (by omega))
    have c0' : wr.cell? ⟨blk, offF, none⟩ = some (.string (F 0)) := (hbw.cell (p := ⟨blk, offF, none⟩) l0).trans c0
    have lb' : blk < wr.heap.size := by omega
    by_cases hiN : i < N
    · have HL : Hid (List.replicate (i + 1) (Value.int .i64 (-1)) = List.replicate i (.int .i64 (-1)) ++ [.int .i64 (-1)]) := by show _ = _; rw [List.replicate_succ']
      go_wp2_with (at_builtin; refine wpList_append_own _ rfl _ _ 48 rfl (w.heap.size + 1) 3 ij (.int .i64 0) 1 8 Tryd.underlying48 hij jz0 jz1 jz2 rfl (by decide) _ _ _ rfl (HO.out.alloc _) ⟨wr.heap.size, 0, none⟩ 1 1 [.int .i64 (-1)] rfl rfl (by intro i u hu; match i, hu with | 0, hu => (simp at hu; subst hu; simp [go_sem, Addr.add])) (by intro u hu; simp at hu; subst hu; rfl) (by unfold maxLen; omega) (by omega) (by simp; omega) ?_)
      intro v' w5 hown5 hg5 _
      have hb5 : Below (w.heap.size + 1) (w.alloc (.cells #[.int .i64 r, .int .i64 c] 38)) w5 := (hbr.alloc (by omega) _).grown hg5 (by simp; omega) (fun g hg => (HO.out.lt g hg).1)
      obtain ⟨B2, cp2, rfl⟩ := row_form hown5
      rw [← HL.out] at hown5
      have hown6 := hide hown5
      clear hown5 hg5 HO
      go_wp2_with fail
      go_roundw
      case rel => exact ⟨i + 1, B2, cp2, by omega, by go_num, rfl, hown6, hb5⟩
      case measure => simp [intOf]; omega
    · obtain rfl : i = N := by omega
      obtain ⟨g, rfl⟩ : ∃ g, A1 = some ⟨g, 0, none⟩ := by
        rcases HO.out.2 with ⟨_, h⟩ | ⟨g, _, _, h, _⟩
        · omega
        · injection h with h
          exact ⟨g, h⟩
      have hgb := HO.out.lt g rfl
      have hrow := rep_row i
      have hol : OwnL wr g (g + 1) 3 1 (.slice (some ⟨g, 0, none⟩) i cp) i i (fun _ => .int .i64 (-1)) := by
        have h := HO.out
        have h' : wr.ownsRow (w.heap.size + 1) 3 1 (.slice (some ⟨g, 0, none⟩) i cp) i (rowL (iC (fun _ => -1)) 1 i) := hrow ▸ h
        have h2 := row_at h' (by omega) rfl
        rw [Nat.mul_one] at h2
        exact h2.congr fun o _ => rfl
      obtain ⟨hci, hcm⟩ := hol.cap_le (by omega)
      have HOL := hide hol
      have px0 : wr.cell? ⟨w.heap.size, 0, none⟩ = some (.int .i64 r) := (hbr.cell (p := ⟨w.heap.size, 0, none⟩) (by show w.heap.size < _; omega)).trans (World.cell?_alloc_new _ _ _ _)
      have px1 : wr.cell? ⟨w.heap.size, 1, none⟩ = some (.int .i64 c) := (hbr.cell (p := ⟨w.heap.size, 1, none⟩) (by show w.heap.size < _; omega)).trans (World.cell?_alloc_new _ _ _ _)
      have lp0 : w.heap.size < wr.heap.size := by omega
      have hne0 : ¬ g = w.heap.size := by omega
      clear hol hrow HO
      go_wp2_with fail
      refine (seIndex_p F n (r, c) lo hi _ _ (hv.below (B := w.heap.size) hbw hhi) (by omega) HG.out HOP.out).mono ?_
      rintro e w1 ⟨rfl, hb1⟩
      have hz1 := hb1.size
      have hol1 := HOL.out.keep1 (hb1.block g hgb.2)
      obtain ⟨⟨u0, hu0⟩, hf0, _⟩ := hol1.cell (by omega) (o := ixF F (r, c)) (by omega)
      have hb01 : Below w.heap.size w w1 := hbw.trans (hb1.mono (by omega))
      have HST : Hid (BMk w _ g w1.heap.size i cp 0 1 0 (bs0 F (r, c))) := (BMem.start (F := F) (a := (r, c)) (w0 := w) hol1 hixN (by omega) (by omega) hb01).bmk
      have px0' : w1.cell? ⟨w.heap.size, 0, none⟩ = some (.int .i64 r) := (hb1.cell (p := ⟨w.heap.size, 0, none⟩) lp0).trans px0
      have px1' : w1.cell? ⟨w.heap.size, 1, none⟩ = some (.int .i64 c) := (hb1.cell (p := ⟨w.heap.size, 1, none⟩) lp0).trans px1
      have lg1 : g < w1.heap.size := by omega
      have lp1 : w.heap.size < w1.heap.size := by omega
      unfold maxLen at hcm
      clear px0 px1 hol1 c0' lp0
      go_wp2_with fail
      clear px0' px1' hu0 hf0
      go_loopg [7] i (fun gn qv wr => ∃ (k l f q off cap : Nat) (s : Bs), qv = .slice (some ⟨q, off, none⟩) l cap ∧ Hid (s.m = k + l) ∧ i - k ≤ gn ∧ i ≤ f + k ∧ Hid (BInv F n (r, c) s) ∧ Hid (bfs F n f k s = bsF F n (r, c)) ∧ Hid (BMk w wr g q i cp off cap k s))
      case atStart => exact ⟨0, 1, i, w1.heap.size, 0, 1, bs0 F (r, c), by simp, rfl, by omega, by omega, BInv.start HOP.out, by show _ = _; rw [HN.out]; rfl, show BMk _ _ _ _ _ _ _ _ _ _ from by simpa using HST.out⟩
      case round =>
        clear hbw lb' hzr hbr
        obtain ⟨k, l, f, q, off, cap, s, rfl, hkl, hgk, hfk, HI, HB, HM⟩ := hrel
        have hmN : s.m ≤ i := by rw [HN.out]; exact HI.out.m_le
        have hkl' := hkl.out
        have hcl := HM.out.que.le
        have hcm2 := HM.out.que.mx
        unfold maxLen at hcm2
        by_cases hl0 : 0 < l
        · have hkm : k < s.m := by omega
          obtain ⟨l, rfl⟩ : ∃ l', l = l' + 1 := ⟨l - 1, by omega⟩
          obtain ⟨f, rfl⟩ : ∃ f', f = f' + 1 := ⟨f - 1, by omega⟩
          have HP : Hid (opP F n (s.q k) = true ∧ 0 ≤ s.o (ixF F (s.q k))) := HI.out.hq k hkm
          obtain ⟨o2, ho2⟩ : ∃ o2, o2 = (if cap = 1 then off else off + 2) := ⟨_, rfl⟩
          have MT : Hid (BMk w wr g q i cp o2 (cap - 1) (k + 1) s) := by
            have h := HM.out.tail hkm
            rw [← ho2] at h
            exact h
          have hsl : ∀ W, (Instr.slice 26 (.slice (some ⟨q, off, none⟩) (l + 1) cap) (some (.int .i64 1)) none none).run Tryd.prog W = .ok (.slice (some ⟨q, o2, none⟩) l (cap - 1)) W := fun W => by
            rw [ho2]
            by_cases h1 : cap = 1
            · subst h1
              simp [go_sem, Tryd.underlying26]
              omega
            · simp [go_sem, Tryd.underlying26, h1]
              omega
          obtain ⟨qc0, qc1⟩ := HM.out.cell hkm
          obtain ⟨wo, ewo⟩ : ∃ wo : World, wo = wr := ⟨_, rfl⟩
          subst ewo
          have hwo := HM.out.bel.size
          have lq0 := HM.out.que.lt
          have lg0 := HM.out.gs
          have HCL := hide hkl'
          clear ho2 hcl hkl'
          go_wp2_with fail
          clear qc0 qc1 hsl
          go_loopg [7, 9] 5 (fun gi qv dv wr => ∃ (d l' q' off' cap' : Nat) (s' : Bs), d ≤ 4 ∧ 4 - d < gi ∧ dv = .int .i64 d ∧ qv = .slice (some ⟨q', off', none⟩) l' cap' ∧ Hid (s'.m = k + 1 + l') ∧ Hid (s' = pshN F n (s.q k) d s) ∧ Hid (BMk w wr g q' i cp off' cap' (k + 1) s') ∧ Hid (wr.heap[wo.heap.size]? = some (.cells #[.int .i64 (s.q k).1, .int .i64 (s.q k).2] 38 (0, 0))) ∧ wo.heap.size ≠ g ∧ wo.heap.size ≠ q' ∧ wo.heap.size < wr.heap.size)
          case atStart => exact ⟨0, l, q, o2, cap - 1, s, by omega, by omega, rfl, rfl, by show _ = _; rw [HCL.out]; omega, rfl, MT.out.below ((Below.refl _ _).alloc (Nat.le_refl _) _), heap_alloc_new wo _, by omega, by omega, by simp⟩
          case round =>
            obtain ⟨d, l', q', off', cap', s', hd, hgi, rfl, rfl, HL', HS, HM', HNB, hng, hnq, hil⟩ := hrel
            obtain ⟨a1, a2, a3, a4⟩ := HI.out.pshN HP.out.1 HP.out.2 hd
            rw [← HS.out] at a1 a2 a3 a4
            have HI' := hide a1
            have HO' := hide a2
            have hm'N : s'.m ≤ i := by rw [HN.out]; exact a1.m_le
            have hl' := HL'.out
            clear a1 a2 a3 a4
            by_cases hd4 : d < 4
            · have nc0 : wr.cell? ⟨wo.heap.size, 0, none⟩ = some (.int .i64 (s.q k).1) := (by simp [World.cell?, HNB.out])
              have nc1 : wr.cell? ⟨wo.heap.size, 1, none⟩ = some (.int .i64 (s.q k).2) := (by simp [World.cell?, HNB.out])
              obtain ⟨y, hy⟩ : ∃ y, stp (s.q k) d = y := ⟨_, rfl⟩
              have HY := hide hy
              obtain ⟨b1, b2, b3, b4⟩ := opP_bd HP.out.1
              have lng := hng
              have lgr := HM'.out.gs
              have lqr := HM'.out.que.lt
              have hbr := HM'.out.bel
              have HL2 := hide hl'
              clear hy hl'
              go_wp2_with fail
              refine (seStep_p (s.q k) y d _ HY.out hd4 (by omega) (by omega) (by omega) (by omega)).mono ?_
              rintro e w2 ⟨rfl, hb2⟩
              have hz2 := hb2.size
              have hbw2 : Below w.heap.size w w2 := hbr.trans (hb2.mono hbr.size)
              have hzw2 := hbw2.size
              go_wp2_with fail
              refine (seOpen_any F n y.1 y.2 lo hi _ _ (hv.below (B := w.heap.size) (hbw2.alloc hbw2.size _) hhi) (by simp; omega) HG.out).mono ?_
              rintro e w3 ⟨rfl, hb3⟩
              have hz3 := hb3.size
              simp at hz3
              have ny0 : w3.cell? ⟨w2.heap.size, 0, none⟩ = some (.int .i64 y.1) := (hb3.cell (p := ⟨w2.heap.size, 0, none⟩) (by simp)).trans (World.cell?_alloc_new _ _ _ _)
              have ny1 : w3.cell? ⟨w2.heap.size, 1, none⟩ = some (.int .i64 y.2) := (hb3.cell (p := ⟨w2.heap.size, 1, none⟩) (by simp)).trans (World.cell?_alloc_new _ _ _ _)
              have M3 : Hid (BMk w w3 g q' i cp off' cap' (k + 1) s') := ((HM'.out.below hb2).below ((Below.refl _ _).alloc (Nat.le_refl _) _)).below hb3
              have hb23 : Below w2.heap.size w2 w3 := ((Below.refl _ _).alloc (Nat.le_refl _) _).trans (hb3.mono (by simp))
              have N3 : Hid (w3.heap[wo.heap.size]? = some (.cells #[.int .i64 (s.q k).1, .int .i64 (s.q k).2] 38 (0, 0))) := by
                show _ = _
                rw [hb23.block _ (by omega), hb2.block _ hil]
                exact HNB.out
              have hly : w2.heap.size < w3.heap.size := by omega
              clear nc0 nc1
              cases e1 : opB F n y.1 y.2 with
              | false =>
                have HS' : Hid (s' = pshN F n (s.q k) (d + 1) s) := by
                  show _ = _
                  rw [pshN, ← HS.out, psh, pshB, HY.out, show opP F n y = false from e1]
                  rfl
                go_wp2_with fail
                go_roundg (4 - d)
                case measure => omega
                case rel => exact ⟨d + 1, l', q', off', cap', s', by omega, by omega, by go_num, rfl, HL2.out, HS', M3, N3, hng, hnq, by omega⟩
              | true =>
                have hoy : opP F n y = true := e1
                have hiy : ixF F y < i := by rw [HN.out]; exact ix_lt hoy
                have HOY := hide hoy
                obtain ⟨y1, y2, y3, y4⟩ := opP_bd hoy
                clear hoy
                go_wp2_with fail
                refine (seIndex_p F n y lo hi _ _ (hv.below (B := w.heap.size) M3.out.bel hhi) (by omega) HG.out HOY.out).mono ?_
                rintro e w4 ⟨rfl, hb4⟩
                have hz4 := hb4.size
                have M4 := hide (M3.out.below hb4)
                obtain ⟨oc, of⟩ := M4.out.num hiy
                have lg4 := M4.out.gs
                have N4 : Hid (w4.heap[wo.heap.size]? = some (.cells #[.int .i64 (s.q k).1, .int .i64 (s.q k).2] 38 (0, 0))) := by
                  show _ = _
                  rw [hb4.block _ (by omega)]
                  exact N3.out
                have ny0' : w4.cell? ⟨w2.heap.size, 0, none⟩ = some (.int .i64 y.1) := (hb4.cell (p := ⟨w2.heap.size, 0, none⟩) hly).trans ny0
                have ny1' : w4.cell? ⟨w2.heap.size, 1, none⟩ = some (.int .i64 y.2) := (hb4.cell (p := ⟨w2.heap.size, 1, none⟩) hly).trans ny1
                have nc0 : w4.cell? ⟨wo.heap.size, 0, none⟩ = some (.int .i64 (s.q k).1) := (by simp [World.cell?, N4.out])
                have nc1 : w4.cell? ⟨wo.heap.size, 1, none⟩ = some (.int .i64 (s.q k).2) := (by simp [World.cell?, N4.out])
                clear ny0 ny1
                cases e2 : decide (s'.o (ixF F y) < 0) with
                | false =>
                  have HS' : Hid (s' = pshN F n (s.q k) (d + 1) s) := by
                    show _ = _
                    rw [pshN, ← HS.out, psh, pshB, HY.out, e2]
                    simp
                  go_wp2_with fail
                  go_roundg (4 - d)
                  case measure => omega
                  case rel => exact ⟨d + 1, l', q', off', cap', s', by omega, by omega, by go_num, rfl, HL2.out, HS', M4, N4, hng, hnq, by omega⟩
                | true =>
                  have hip : ixF F (s.q k) < i := by rw [HN.out]; exact ix_lt HP.out.1
                  obtain ⟨pc, _⟩ := M4.out.num hip
                  have hob := HI'.out.hb (ixF F (s.q k))
                  have zo : IntKind.i64.wrap (s'.o (ixF F (s.q k)) + 1) = s'.o (ixF F (s.q k)) + 1 := IntWalk.i64_in _ (by omega)
                  have hpy : ixF F (s.q k) ≠ ixF F y := fun e => by
                    have := HO'.out
                    have h2 := of_decide_eq_true e2
                    rw [e] at this
                    omega
                  have HC : Hid (∀ W, Below w4.heap.size w4.drew W → (W.cell? ⟨w2.heap.size, 0, none⟩ = some (.int .i64 y.1) ∧ W.cell? ⟨w2.heap.size, 1, none⟩ = some (.int .i64 y.2)) ∧ (W.cell? ⟨wo.heap.size, 0, none⟩ = some (.int .i64 (s.q k).1) ∧ W.cell? ⟨wo.heap.size, 1, none⟩ = some (.int .i64 (s.q k).2)) ∧ W.cell? ⟨g, ixF F (s.q k), none⟩ = some (.int .i64 (s'.o (ixF F (s.q k))))) := fun W hW =>
                    ⟨⟨(hW.cell (p := ⟨w2.heap.size, 0, none⟩) (by show w2.heap.size < _; omega)).trans ny0', (hW.cell (p := ⟨w2.heap.size, 1, none⟩) (by show w2.heap.size < _; omega)).trans ny1'⟩, ⟨(hW.cell (p := ⟨wo.heap.size, 0, none⟩) (by show wo.heap.size < _; omega)).trans nc0, (hW.cell (p := ⟨wo.heap.size, 1, none⟩) (by show wo.heap.size < _; omega)).trans nc1⟩, (hW.cell (p := ⟨g, ixF F (s.q k), none⟩) lg4).trans pc⟩
                  have hzd : w4.drew.heap.size = w4.heap.size := rfl
                  go_wp2_with fail
                  have HE2 := hide e2
                  clear oc of pc nc0 nc1 ny0' ny1' e2
                  refine wp_region_mix [(0, true), (1, true), (2, true), (4, true), (5, true), (6, true), (3, false), (7, false), (8, true), (9, true), (10, true), (11, true), (12, false)] (fun W => (W.cell? ⟨w2.heap.size, 0, none⟩ = some (.int .i64 y.1) ∧ W.cell? ⟨w2.heap.size, 1, none⟩ = some (.int .i64 y.2)) ∧ (W.cell? ⟨wo.heap.size, 0, none⟩ = some (.int .i64 (s.q k).1) ∧ W.cell? ⟨wo.heap.size, 1, none⟩ = some (.int .i64 (s.q k).2)) ∧ W.cell? ⟨g, ixF F (s.q k), none⟩ = some (.int .i64 (s'.o (ixF F (s.q k))))) (by kernel_rfl) (by kernel_rfl) (by kernel_rfl) (by kernel_rfl) (HC.out _ (Below.refl _ _)) ?_
                  refine mix_look _ _ rfl rfl (fun w' _ => BigFrame.run_move _ rfl w') ?_
                  go_simp
                  refine mix_look _ _ rfl rfl (fun w' _ => BigFrame.run_move _ rfl w') ?_
                  go_simp
                  refine mix_look _ (.agg #[.int .i64 y.1, .int .i64 y.2]) rfl rfl (fun w' hw' => (by obtain ⟨⟨a0, a1⟩, _⟩ := hw'; go_simp)) ?_
                  go_simp
                  refine mix_look _ _ rfl rfl (fun w' _ => BigFrame.run_move _ rfl w') ?_
                  go_simp
                  refine mix_look _ _ rfl rfl (fun w' _ => BigFrame.run_move _ rfl w') ?_
                  go_simp
                  refine mix_look _ (.agg #[.int .i64 (s.q k).1, .int .i64 (s.q k).2]) rfl rfl (fun w' hw' => (by obtain ⟨_, ⟨a0, a1⟩, _⟩ := hw'; go_simp)) ?_
                  go_simp
                  refine mix_call _ 91 #[.slice (some ⟨blk, offF, none⟩) n capF, .agg #[.int .i64 y.1, .int .i64 y.2]] rfl rfl (by go_simp) ?_
                  refine (seIndex_p F n y lo hi _ _ (hv.below (B := w.heap.size) (Below.drew M4.out.bel) hhi) (by omega) HG.out HOY.out).mono ?_
                  rintro e w5 ⟨rfl, hb5⟩
                  have hz5 := hb5.size
                  refine ⟨_, rfl, HC.out _ hb5, ?_⟩
                  go_simp
                  refine mix_call _ 91 #[.slice (some ⟨blk, offF, none⟩) n capF, .agg #[.int .i64 (s.q k).1, .int .i64 (s.q k).2]] rfl rfl (by go_simp) ?_
                  refine (seIndex_p F n (s.q k) lo hi _ _ (hv.below (B := w.heap.size) ((Below.drew M4.out.bel).trans (hb5.mono M4.out.bel.size)) hhi) (by omega) HG.out HP.out.1).mono ?_
                  rintro e w6 ⟨rfl, hb6⟩
                  have hz6 := hb6.size
                  have hb46 : Below w4.heap.size w4.drew w6 := hb5.trans (hb6.mono hb5.size)
                  refine ⟨_, rfl, HC.out _ hb46, ?_⟩
                  go_simp
                  refine mix_look _ (.pointer (some ⟨g, ixF F (s.q k), none⟩)) rfl rfl (fun w' hw' => (by go_simp)) ?_
                  go_simp
                  refine mix_look _ (.int .i64 (s'.o (ixF F (s.q k)))) rfl rfl (fun w' hw' => (by obtain ⟨_, _, a0⟩ := hw'; go_simp)) ?_
                  go_simp
                  refine mix_look _ (.int .i64 (s'.o (ixF F (s.q k)) + 1)) rfl rfl (fun w' hw' => (by go_simp)) ?_
                  go_simp
                  refine mix_look _ (.pointer (some ⟨g, ixF F y, none⟩)) rfl rfl (fun w' hw' => (by go_simp)) ?_
                  go_simp
                  have M6 := hide (M4.out.below (w' := w6) ((Below.drew (Below.refl w4.heap.size w4)).trans hb46))
                  obtain ⟨oc, of⟩ := M6.out.num hiy
                  obtain ⟨⟨ca0, ca1⟩, ⟨cb0, cb1⟩, cc3⟩ := HC.out _ hb46
                  have hne4 : w2.heap.size ≠ g := by omega
                  have N6 : Hid (w6.heap[wo.heap.size]? = some (.cells #[.int .i64 (s.q k).1, .int .i64 (s.q k).2] 38 (0, 0))) := by
                    show _ = _
                    rw [hb46.block _ (by omega)]
                    exact N4.out
                  obtain ⟨W7, hW7⟩ : ∃ W7, W7 = w6.setCell ⟨g, ixF F y, none⟩ (.int .i64 (s'.o (ixF F (s.q k)) + 1)) := ⟨_, rfl⟩
                  have hk7 : ∀ b, b ≠ g → W7.heap[b]? = w6.heap[b]? := fun b hb => by rw [hW7]; exact Deep.blk_setCell_other _ _ _ _ hb
                  have ny0 : W7.cell? ⟨w2.heap.size, 0, none⟩ = some (.int .i64 y.1) := (World.cell?_of_block (a := ⟨w2.heap.size, 0, none⟩) (hk7 _ hne4)).trans ca0
                  have ny1 : W7.cell? ⟨w2.heap.size, 1, none⟩ = some (.int .i64 y.2) := (World.cell?_of_block (a := ⟨w2.heap.size, 1, none⟩) (hk7 _ hne4)).trans ca1
                  have nc0' : W7.cell? ⟨wo.heap.size, 0, none⟩ = some (.int .i64 (s.q k).1) := (World.cell?_of_block (a := ⟨wo.heap.size, 0, none⟩) (hk7 _ lng)).trans cb0
                  have nc1' : W7.cell? ⟨wo.heap.size, 1, none⟩ = some (.int .i64 (s.q k).2) := (World.cell?_of_block (a := ⟨wo.heap.size, 1, none⟩) (hk7 _ lng)).trans cb1
                  have nc3 : W7.cell? ⟨g, ixF F (s.q k), none⟩ = some (.int .i64 (s'.o (ixF F (s.q k)))) := by rw [hW7]; simp [go_sem, hpy, cc3]
                  have hz7 : Hid (W7.heap.size = w6.heap.size) := by show _ = _; rw [hW7]; simp [World.setCell]
                  have M7 : BMk w W7 g q' i cp off' cap' (k + 1) { s' with o := updI s'.o (ixF F y) (s'.o (ixF F (s.q k)) + 1) } := by rw [hW7]; exact M6.out.set hiy _
                  have N7 : Hid (W7.heap[wo.heap.size]? = some (.cells #[.int .i64 (s.q k).1, .int .i64 (s.q k).2] 38 (0, 0))) := (hk7 _ lng).trans N6.out
                  have HW7 := hide hW7
                  clear hW7
                  refine mix_store _ W7 rfl rfl (by rw [HW7.out]; go_simp) ⟨⟨ny0, ny1⟩, ⟨nc0', nc1'⟩, nc3⟩ ?_
                  go_simp
                  refine wpMix_nil ?_
                  have HS7 : Hid (pshN F n (s.q k) (d + 1) s = ⟨updI s'.o (ixF F y) (s'.o (ixF F (s.q k)) + 1), updP s'.q s'.m y, s'.m + 1⟩) := by
                    show _ = _
                    rw [pshN, ← HS.out, psh, pshB, HY.out, show opP F n y = true from e1, HE2.out]
                    rfl
                  have hLm := HL2.out
                  have M8 : BMk w (W7.alloc (.cells #[.int .i64 y.1, .int .i64 y.2] 38)) g q' i cp off' cap' (k + 1) { s' with o := updI s'.o (ixF F y) (s'.o (ixF F (s.q k)) + 1) } := M7.below ((Below.refl _ _).alloc (Nat.le_refl _) _)
                  have hq8 : Tl (W7.alloc (.cells #[.int .i64 y.1, .int .i64 y.2] 38)) q' 2 off' l' cap' (fun j => iiC (qR s') (qC s') (k + 1 + j)) := by
                    have h := M8.que
                    simp only at h
                    rw [show s'.m - (k + 1) = l' by omega] at h
                    exact h
                  obtain ⟨q2, off2, cap2, W9, hrun, ht9, hg9, hq9⟩ := run_append_tl (P := Tryd.prog) 26 26 38 ii _ 2 16 Tryd.underlying26 hii iz0 iz1 iz2 rfl (by decide) hq8 (c' := fun j => iiC (qR ⟨updI s'.o (ixF F y) (s'.o (ixF F (s.q k)) + 1), updP s'.q s'.m y, s'.m + 1⟩) (qC ⟨updI s'.o (ixF F y) (s'.o (ixF F (s.q k)) + 1), updP s'.q s'.m y, s'.m + 1⟩) (k + 1 + j)) ⟨W7.heap.size, 0, none⟩ 1
                    (fun j u hu => by
                      rw [Addr.add_lit, Nat.zero_add]
                      refine (World.cell?_alloc_new _ _ _ _).trans ?_
                      rw [← hLm] at hu
                      match j, hu with
                      | 0, hu => simpa [List.range, List.range.loop, iiC, qR, updP] using hu
                      | 1, hu => simpa [List.range, List.range.loop, iiC, qC, updP] using hu)
                    (fun j hj => by unfold iiC; split <;> rfl)
                    (fun a j ha hj => by
                      have : ¬ k + 1 + a = s'.m := by omega
                      simp only [iiC, qR, qC, updP, this, if_false])
                    (by unfold maxLen; omega) (by omega)
                  have HM9 : Hid (BMk w W9 g q2 i cp off2 cap2 (k + 1) ⟨updI s'.o (ixF F y) (s'.o (ixF F (s.q k)) + 1), updP s'.q s'.m y, s'.m + 1⟩) := M8.push (by simp only; rw [show s'.m + 1 - (k + 1) = l' + 1 by omega]; exact ht9) hg9 hq9
                  have hz9 := hg9.size
                  have hz76 := hz7.out
                  have N9 : Hid (W9.heap[wo.heap.size]? = some (.cells #[.int .i64 (s.q k).1, .int .i64 (s.q k).2] 38 (0, 0))) := (hg9.block _ (by simp; omega) (fun e => hnq (by injection e))).trans ((Deep.blk_alloc_lt _ _ _ (by omega)).trans N7.out)
                  have hnq2 : wo.heap.size ≠ q2 := by simp at hq9; omega
                  have hil9 : wo.heap.size < W9.heap.size := by simp at hz9; omega
                  have hrun' : (Builtin.append_ #[26, 26] 26 #[.slice (some ⟨q', off', none⟩) l' cap', .slice (some ⟨W7.heap.size, 0, none⟩) 1 1]).run Tryd.prog (W7.alloc (.cells #[.int .i64 y.1, .int .i64 y.2] 38)) = .ok (.slice (some ⟨q2, off2, none⟩) (l' + 1) cap2) W9 := hrun
                  have HRUN := hide hrun'
                  clear hrun hrun' ht9 M7 M8 hk7 hq9 hg9 hq8 hLm oc of ca0 ca1 cb0 cb1 cc3 nc0' nc1' nc3 zo hz76 hz9
                  go_wp2_with (at_builtin; refine Lib.wpList_append_run _ rfl _ _ _ _ rfl _ _ rfl rfl _ _ HRUN.out ?_)
                  go_wp2_with fail
                  go_roundg (4 - d)
                  case measure => omega
                  case rel => exact ⟨d + 1, l' + 1, q2, off2, cap2, _, by omega, by omega, by go_num, rfl, by have := HL2.out; show s'.m + 1 = _; omega, HS7.out.symm, HM9, N9, hng, hnq2, hil9⟩
            · obtain rfl : d = 4 := by omega
              go_wp2_with fail
              go_roundg (i - (k + 1))
              case measure => omega
              case rel => exact ⟨k + 1, l', f, q', off', cap', s', rfl, HL'.out, by omega, by omega, HI'.out, by show _ = _; rw [HS.out, ← bfs_next hkm]; exact HB.out, HM'.out⟩
        · obtain rfl : l = 0 := by omega
          have hkm : ¬ k < s.m := by omega
          have HE : Hid (s = bsF F n (r, c)) := by show _ = _; rw [← HB.out, bfs_done hkm]
          clear hkl'
          go_wp2_with fail
          go_ret
          refine ⟨g, cp, rfl, ?_, HM.out.gl, HM.out.gs, HM.out.bel⟩
          have h := HM.out.out
          rw [HE.out] at h
          exact h

end Go.Proofs.YtpckhpkbdanjoaaDoor

/-
  Walks: StepsFrom: the program's and the reference's.-/
namespace Go.Proofs.YtpckhpkbdanjoaaDoor
set_option linter.unusedVariables false
set_option linter.unusedSimpArgs false
open Go.RowKit

def sfOk (F : Nat → ByteArray) (n : Nat) (r c : Int) : Bool := flB F n && opB F n r c
def sfN (F : Nat → ByteArray) (n : Nat) (r c : Int) : Nat := if sfOk F n r c = true then n * (F 0).size else 0
def sfO (F : Nat → ByteArray) (n : Nat) (r c : Int) : Nat → Int := stF F n (r, c)
theorem fl_area {F : Nat → ByteArray} {n : Nat} (h : flB F n = true) : 1 ≤ n * (F 0).size ∧ n * (F 0).size ≤ 144 := by
  obtain ⟨g1, g2, g3, g4, _⟩ := flB_facts h
  have h5 : n * (F 0).size ≤ 12 * 12 := Nat.mul_le_mul g2 g4
  have h6 : 1 * 1 ≤ n * (F 0).size := Nat.mul_le_mul g1 g3
  omega
theorem sfN_le {F : Nat → ByteArray} {n : Nat} {r c : Int} : sfN F n r c ≤ 1048576 := by
  unfold sfN
  split
  · rename_i h
    simp only [sfOk, Bool.and_eq_true] at h
    have := fl_area h.1
    omega
  · omega
/-- What the call hands back. -/
def SfRes (F : Nat → ByteArray) (n : Nat) (r c : Int) (w : World) (e : Ending) (w' : World) : Prop := ∃ v', e = .returned (.tuple #[v', .bool (sfOk F n r c)]) ∧ Own w' w.heap.size w'.heap.size 3 1 v' (sfN F n r c) (sfN F n r c) (iC (sfO F n r c)) ∧ Below w.heap.size w w'
theorem sf_nil {F : Nat → ByteArray} {n : Nat} {r c : Int} {w w' : World} (h : sfOk F n r c = false) (hb : Below w.heap.size w w') : SfRes F n r c w (.returned (.tuple #[.slice none 0 0, .bool (sfOk F n r c)])) w' :=
  ⟨_, rfl, by rw [sfN, h]; exact Own.nil_ _ _ _ _ _ _, hb⟩
/-- The row of numbers, as the laws want it. -/
theorem st_row {w' : World} {g N co lo : Nat} {o : Nat → Int} (h : OwnL w' g (g + 1) 3 1 (.slice (some ⟨g, 0, none⟩) N co) N N (fun i => .int .i64 (o i))) (hN : 0 < N) (hl : lo ≤ g) : Own w' lo w'.heap.size 3 1 (.slice (some ⟨g, 0, none⟩) N co) N N (iC o) := by
  have h1 : OwnL w' g (g + 1) 3 1 (.slice (some ⟨g, 0, none⟩) N co) N (N * 1) (fun i => iC o (i / 1) (i % 1)) := by
    rw [Nat.mul_one]
    exact h.congr fun i _ => by simp [iC]
  exact (own_row (h1.rowL hN (by omega))).mono hl (Nat.le_refl _)
theorem sf_row {F : Nat → ByteArray} {n : Nat} {r c : Int} {w w' : World} {g co : Nat} (h : sfOk F n r c = true) (ho : OwnL w' g (g + 1) 3 1 (.slice (some ⟨g, 0, none⟩) (n * (F 0).size) co) (n * (F 0).size) (n * (F 0).size) (fun i => .int .i64 (stF F n (r, c) i))) (hl : w.heap.size ≤ g) (hb : Below w.heap.size w w') :
    SfRes F n r c w (.returned (.tuple #[.slice (some ⟨g, 0, none⟩) (n * (F 0).size) co, .bool (sfOk F n r c)])) w' := by
  have hN : sfN F n r c = n * (F 0).size := by rw [sfN, if_pos h]
  refine ⟨_, rfl, ?_, hb⟩
  rw [hN]
  have hf : flB F n = true := by simp only [sfOk, Bool.and_eq_true] at h; exact h.1
  have := fl_area hf
  exact st_row ho (by omega) hl
set_option maxRecDepth 100000 in
set_option maxHeartbeats 1600000 in
theorem seAsked_any (F : Nat → ByteArray) (n : Nat) (r c : Int) (lo hi : Nat) (v : Value) (w : World) (hv : Sl w lo hi 1 v n (sC F)) (hhi : hi ≤ w.heap.size) (hf : ffits F n) :
    Calls Tryd.prog 63 #[v, .agg #[.int .i64 r, .int .i64 c]] w fun e w' => e = .returned (.bool (sfOk F n r c)) ∧ Below w.heap.size w w' := by
  obtain ⟨A, cap, rfl, hcap, hA⟩ := hv.open_
  cases e1 : flB F n with
  | false =>
    have HX : Hid (sfOk F n r c = false) := by show _ = _; rw [sfOk, e1]; rfl
    go_enter Tryd.func63, Tryd.ntmps63
    go_wp2_with fail
    refine (seGood_any F n lo hi _ _ (hv.below (B := w.heap.size) (by repeat (first | (with_reducible exact Below.refl _ _) | (with_reducible refine below_ov ?_ ?_) | (with_reducible refine Below.setCell ?_ ?_ _) | (with_reducible refine Below.alloc ?_ ?_ _) | (with_reducible refine Below.drew ?_) | (with_reducible refine below_drewN ?_ _) | (refine Below.trans ?_ (Below.mono ‹Below _ _ _› (by first | omega | (simp; done) | (simp; omega)))) | exact Below.refl _ _ | omega | (focus (simp; done)) | (focus (simp; omega)))) hhi) (by first | omega | (simp; done) | (simp; omega)) hf).mono ?_
    rintro e w1 ⟨rfl, hb1⟩
    have hz1 := hb1.size
    rw [e1]
    go_wp2_with fail
    go_ret
    rw [HX.out]
    exact ⟨rfl, (by repeat (first | (with_reducible exact Below.refl _ _) | (with_reducible refine below_ov ?_ ?_) | (with_reducible refine Below.setCell ?_ ?_ _) | (with_reducible refine Below.alloc ?_ ?_ _) | (with_reducible refine Below.drew ?_) | (with_reducible refine below_drewN ?_ _) | (refine Below.trans ?_ (Below.mono ‹Below _ _ _› (by first | omega | (simp; done) | (simp; omega)))) | exact Below.refl _ _ | omega | (focus (simp; done)) | (focus (simp; omega))))⟩
  | true =>
    have HX : Hid (sfOk F n r c = opB F n r c) := by show _ = _; rw [sfOk, e1]; rfl
    have HG := hide e1
    go_enter Tryd.func63, Tryd.ntmps63
    go_wp2_with fail
    refine (seGood_any F n lo hi _ _ (hv.below (B := w.heap.size) (by repeat (first | (with_reducible exact Below.refl _ _) | (with_reducible refine below_ov ?_ ?_) | (with_reducible refine Below.setCell ?_ ?_ _) | (with_reducible refine Below.alloc ?_ ?_ _) | (with_reducible refine Below.drew ?_) | (with_reducible refine below_drewN ?_ _) | (refine Below.trans ?_ (Below.mono ‹Below _ _ _› (by first | omega | (simp; done) | (simp; omega)))) | exact Below.refl _ _ | omega | (focus (simp; done)) | (focus (simp; omega)))) hhi) (by first | omega | (simp; done) | (simp; omega)) hf).mono ?_
    rintro e w1 ⟨rfl, hb1⟩
    have hz1 := hb1.size
    (try (simp at hz1))
    rw [e1]
    clear e1
    have px0 := (hb1.cell (p := ⟨w.heap.size, 0, none⟩) (by simp)).trans (World.cell?_alloc_new _ _ _ _)
    have px1 := (hb1.cell (p := ⟨w.heap.size, 1, none⟩) (by simp)).trans (World.cell?_alloc_new _ _ _ _)
    simp at px0 px1
    have lp : w.heap.size < w1.heap.size := by omega
    go_wp2_with fail
    refine (seOpen_any F n r c lo hi _ _ (hv.below (B := w.heap.size) (by repeat (first | (with_reducible exact Below.refl _ _) | (with_reducible refine below_ov ?_ ?_) | (with_reducible refine Below.setCell ?_ ?_ _) | (with_reducible refine Below.alloc ?_ ?_ _) | (with_reducible refine Below.drew ?_) | (with_reducible refine below_drewN ?_ _) | (refine Below.trans ?_ (Below.mono ‹Below _ _ _› (by first | omega | (simp; done) | (simp; omega)))) | exact Below.refl _ _ | omega | (focus (simp; done)) | (focus (simp; omega)))) hhi) (by first | omega | (simp; done) | (simp; omega)) HG.out).mono ?_
    rintro e w2 ⟨rfl, hb2⟩
    have hz2 := hb2.size
    go_wp2_with fail
    go_ret
    rw [HX.out]
    exact ⟨rfl, (by repeat (first | (with_reducible exact Below.refl _ _) | (with_reducible refine below_ov ?_ ?_) | (with_reducible refine Below.setCell ?_ ?_ _) | (with_reducible refine Below.alloc ?_ ?_ _) | (with_reducible refine Below.drew ?_) | (with_reducible refine below_drewN ?_ _) | (refine Below.trans ?_ (Below.mono ‹Below _ _ _› (by first | omega | (simp; done) | (simp; omega)))) | exact Below.refl _ _ | omega | (focus (simp; done)) | (focus (simp; omega))))⟩
set_option maxRecDepth 100000 in
set_option maxHeartbeats 1600000 in
theorem StepsFrom_impl (F : Nat → ByteArray) (n : Nat) (r c : Int) (lo hi : Nat) (v : Value) (w : World) (hv : Sl w lo hi 1 v n (sC F)) (hhi : hi ≤ w.heap.size) (hf : ffits F n) :
    Calls Tryd.prog 31 #[v, .agg #[.int .i64 r, .int .i64 c]] w (SfRes F n r c w) := by
  obtain ⟨A, cap, rfl, hcap, hA⟩ := hv.open_
  cases e1 : flB F n with
  | false =>
    have HX : Hid (sfOk F n r c = false) := by show _ = _; rw [sfOk, e1]; rfl
    go_enter Tryd.func31, Tryd.ntmps31
    go_wp2_with fail
    refine (isFloor_any F n lo hi _ _ (hv.below (B := w.heap.size) (by repeat (first | (with_reducible exact Below.refl _ _) | (with_reducible refine below_ov ?_ ?_) | (with_reducible refine Below.setCell ?_ ?_ _) | (with_reducible refine Below.alloc ?_ ?_ _) | (with_reducible refine Below.drew ?_) | (with_reducible refine below_drewN ?_ _) | (refine Below.trans ?_ (Below.mono ‹Below _ _ _› (by first | omega | (simp; done) | (simp; omega)))) | exact Below.refl _ _ | omega | (focus (simp; done)) | (focus (simp; omega)))) hhi) (by first | omega | (simp; done) | (simp; omega)) hf).mono ?_
    rintro e w1 ⟨rfl, hb1⟩
    have hz1 := hb1.size
    rw [e1]
    go_wp2_with fail
    go_ret2
    have h := sf_nil HX.out (w' := w1) (w := w) (by repeat (first | (with_reducible exact Below.refl _ _) | (with_reducible refine below_ov ?_ ?_) | (with_reducible refine Below.setCell ?_ ?_ _) | (with_reducible refine Below.alloc ?_ ?_ _) | (with_reducible refine Below.drew ?_) | (with_reducible refine below_drewN ?_ _) | (refine Below.trans ?_ (Below.mono ‹Below _ _ _› (by first | omega | (simp; done) | (simp; omega)))) | exact Below.refl _ _ | omega | (focus (simp; done)) | (focus (simp; omega))))
    rw [HX.out] at h
    exact h
  | true =>
    have HG := hide e1
    go_enter Tryd.func31, Tryd.ntmps31
    go_wp2_with fail
    refine (isFloor_any F n lo hi _ _ (hv.below (B := w.heap.size) (by repeat (first | (with_reducible exact Below.refl _ _) | (with_reducible refine below_ov ?_ ?_) | (with_reducible refine Below.setCell ?_ ?_ _) | (with_reducible refine Below.alloc ?_ ?_ _) | (with_reducible refine Below.drew ?_) | (with_reducible refine below_drewN ?_ _) | (refine Below.trans ?_ (Below.mono ‹Below _ _ _› (by first | omega | (simp; done) | (simp; omega)))) | exact Below.refl _ _ | omega | (focus (simp; done)) | (focus (simp; omega)))) hhi) (by first | omega | (simp; done) | (simp; omega)) hf).mono ?_
    rintro e w1 ⟨rfl, hb1⟩
    have hz1 := hb1.size
    (try (simp at hz1))
    rw [e1]
    clear e1
    have HPX : Hid (∀ W, Below w1.heap.size w1 W → W.cell? ⟨w.heap.size, 0, none⟩ = some (.int .i64 r) ∧ W.cell? ⟨w.heap.size, 1, none⟩ = some (.int .i64 c)) := fun W hW =>
      ⟨(hW.cell (p := ⟨w.heap.size, 0, none⟩) (by show w.heap.size < _; omega)).trans ((hb1.cell (p := ⟨w.heap.size, 0, none⟩) (by simp)).trans (World.cell?_alloc_new _ _ _ _)), (hW.cell (p := ⟨w.heap.size, 1, none⟩) (by show w.heap.size < _; omega)).trans ((hb1.cell (p := ⟨w.heap.size, 1, none⟩) (by simp)).trans (World.cell?_alloc_new _ _ _ _))⟩
    have lp : w.heap.size < w1.heap.size := by omega
    obtain ⟨px0, px1⟩ := HPX.out _ (Below.refl _ _)
    cases e2 : opB F n r c with
    | false =>
      have HX : Hid (sfOk F n r c = false) := by show _ = _; rw [sfOk, HG.out, e2]; rfl
      go_wp2_with fail
      refine (isOpen_any F n r c lo hi _ _ (hv.below (B := w.heap.size) (by repeat (first | (with_reducible exact Below.refl _ _) | (with_reducible refine below_ov ?_ ?_) | (with_reducible refine Below.setCell ?_ ?_ _) | (with_reducible refine Below.alloc ?_ ?_ _) | (with_reducible refine Below.drew ?_) | (with_reducible refine below_drewN ?_ _) | (refine Below.trans ?_ (Below.mono ‹Below _ _ _› (by first | omega | (simp; done) | (simp; omega)))) | exact Below.refl _ _ | omega | (focus (simp; done)) | (focus (simp; omega)))) hhi) (by first | omega | (simp; done) | (simp; omega)) HG.out).mono ?_
      rintro e w2 ⟨rfl, hb2⟩
      have hz2 := hb2.size
      rw [e2]
      go_wp2_with fail
      go_ret2
      have h := sf_nil HX.out (w' := w2) (w := w) (by repeat (first | (with_reducible exact Below.refl _ _) | (with_reducible refine below_ov ?_ ?_) | (with_reducible refine Below.setCell ?_ ?_ _) | (with_reducible refine Below.alloc ?_ ?_ _) | (with_reducible refine Below.drew ?_) | (with_reducible refine below_drewN ?_ _) | (refine Below.trans ?_ (Below.mono ‹Below _ _ _› (by first | omega | (simp; done) | (simp; omega)))) | exact Below.refl _ _ | omega | (focus (simp; done)) | (focus (simp; omega))))
      rw [HX.out] at h
      exact h
    | true =>
      have HX : Hid (sfOk F n r c = true) := by show _ = _; rw [sfOk, HG.out, e2]; rfl
      have HO := hide e2
      go_wp2_with fail
      refine (isOpen_any F n r c lo hi _ _ (hv.below (B := w.heap.size) (by repeat (first | (with_reducible exact Below.refl _ _) | (with_reducible refine below_ov ?_ ?_) | (with_reducible refine Below.setCell ?_ ?_ _) | (with_reducible refine Below.alloc ?_ ?_ _) | (with_reducible refine Below.drew ?_) | (with_reducible refine below_drewN ?_ _) | (refine Below.trans ?_ (Below.mono ‹Below _ _ _› (by first | omega | (simp; done) | (simp; omega)))) | exact Below.refl _ _ | omega | (focus (simp; done)) | (focus (simp; omega)))) hhi) (by first | omega | (simp; done) | (simp; omega)) HG.out).mono ?_
      rintro e w2 ⟨rfl, hb2⟩
      have hz2 := hb2.size
      rw [e2]
      clear e2 px0 px1
      obtain ⟨px0, px1⟩ := HPX.out _ hb2
      have lp2 : w.heap.size < w2.heap.size := by omega
      go_wp2_with fail
      refine (stepsFrom_any F n r c lo hi _ _ (hv.below (B := w.heap.size) (by repeat (first | (with_reducible exact Below.refl _ _) | (with_reducible refine below_ov ?_ ?_) | (with_reducible refine Below.setCell ?_ ?_ _) | (with_reducible refine Below.alloc ?_ ?_ _) | (with_reducible refine Below.drew ?_) | (with_reducible refine below_drewN ?_ _) | (refine Below.trans ?_ (Below.mono ‹Below _ _ _› (by first | omega | (simp; done) | (simp; omega)))) | exact Below.refl _ _ | omega | (focus (simp; done)) | (focus (simp; omega)))) hhi) (by first | omega | (simp; done) | (simp; omega)) HG.out HO.out).mono ?_
      rintro e w3 ⟨g, rfl, ho, hg1, hg2, hb3⟩
      have hz3 := hb3.size
      have hbw : Below w.heap.size w w3 := (by repeat (first | (with_reducible exact Below.refl _ _) | (with_reducible refine below_ov ?_ ?_) | (with_reducible refine Below.setCell ?_ ?_ _) | (with_reducible refine Below.alloc ?_ ?_ _) | (with_reducible refine Below.drew ?_) | (with_reducible refine below_drewN ?_ _) | (refine Below.trans ?_ (Below.mono ‹Below _ _ _› (by first | omega | (simp; done) | (simp; omega)))) | exact Below.refl _ _ | omega | (focus (simp; done)) | (focus (simp; omega))))
      go_wp2_with fail
      go_ret2
      have h := sf_row HX.out ho (w := w) (by omega) hbw
      rw [HX.out] at h
      exact h
set_option maxRecDepth 100000 in
set_option maxHeartbeats 1600000 in
theorem StepsFrom_spec (F : Nat → ByteArray) (n : Nat) (r c : Int) (lo hi : Nat) (v : Value) (w : World) (hv : Sl w lo hi 1 v n (sC F)) (hhi : hi ≤ w.heap.size) (hf : ffits F n) :
    Calls Tryd.prog 32 #[v, .agg #[.int .i64 r, .int .i64 c]] w (SfRes F n r c w) := by
  obtain ⟨A, cap, rfl, hcap, hA⟩ := hv.open_
  cases e1 : sfOk F n r c with
  | false =>
    have HX := hide e1
    go_enter Tryd.func32, Tryd.ntmps32
    go_wp2_with fail
    refine (seAsked_any F n r c lo hi _ _ (hv.below (B := w.heap.size) (by repeat (first | (with_reducible exact Below.refl _ _) | (with_reducible refine below_ov ?_ ?_) | (with_reducible refine Below.setCell ?_ ?_ _) | (with_reducible refine Below.alloc ?_ ?_ _) | (with_reducible refine Below.drew ?_) | (with_reducible refine below_drewN ?_ _) | (refine Below.trans ?_ (Below.mono ‹Below _ _ _› (by first | omega | (simp; done) | (simp; omega)))) | exact Below.refl _ _ | omega | (focus (simp; done)) | (focus (simp; omega)))) hhi) (by first | omega | (simp; done) | (simp; omega)) hf).mono ?_
    rintro e w1 ⟨rfl, hb1⟩
    have hz1 := hb1.size
    rw [e1]
    go_wp2_with fail
    go_ret2
    have h := sf_nil HX.out (w' := w1) (w := w) (by repeat (first | (with_reducible exact Below.refl _ _) | (with_reducible refine below_ov ?_ ?_) | (with_reducible refine Below.setCell ?_ ?_ _) | (with_reducible refine Below.alloc ?_ ?_ _) | (with_reducible refine Below.drew ?_) | (with_reducible refine below_drewN ?_ _) | (refine Below.trans ?_ (Below.mono ‹Below _ _ _› (by first | omega | (simp; done) | (simp; omega)))) | exact Below.refl _ _ | omega | (focus (simp; done)) | (focus (simp; omega))))
    rw [HX.out] at h
    exact h
  | true =>
    have HX := hide e1
    have HGO : Hid (flB F n = true ∧ opB F n r c = true) := by
      show _ ∧ _
      simpa only [sfOk, Bool.and_eq_true] using e1
    go_enter Tryd.func32, Tryd.ntmps32
    go_wp2_with fail
    refine (seAsked_any F n r c lo hi _ _ (hv.below (B := w.heap.size) (by repeat (first | (with_reducible exact Below.refl _ _) | (with_reducible refine below_ov ?_ ?_) | (with_reducible refine Below.setCell ?_ ?_ _) | (with_reducible refine Below.alloc ?_ ?_ _) | (with_reducible refine Below.drew ?_) | (with_reducible refine below_drewN ?_ _) | (refine Below.trans ?_ (Below.mono ‹Below _ _ _› (by first | omega | (simp; done) | (simp; omega)))) | exact Below.refl _ _ | omega | (focus (simp; done)) | (focus (simp; omega)))) hhi) (by first | omega | (simp; done) | (simp; omega)) hf).mono ?_
    rintro e w1 ⟨rfl, hb1⟩
    have hz1 := hb1.size
    (try (simp at hz1))
    rw [e1]
    clear e1
    have px0 := (hb1.cell (p := ⟨w.heap.size, 0, none⟩) (by simp)).trans (World.cell?_alloc_new _ _ _ _)
    have px1 := (hb1.cell (p := ⟨w.heap.size, 1, none⟩) (by simp)).trans (World.cell?_alloc_new _ _ _ _)
    simp at px0 px1
    have lp : w.heap.size < w1.heap.size := by omega
    go_wp2_with fail
    refine (seSteps_any F n r c lo hi _ _ (hv.below (B := w.heap.size) (by repeat (first | (with_reducible exact Below.refl _ _) | (with_reducible refine below_ov ?_ ?_) | (with_reducible refine Below.setCell ?_ ?_ _) | (with_reducible refine Below.alloc ?_ ?_ _) | (with_reducible refine Below.drew ?_) | (with_reducible refine below_drewN ?_ _) | (refine Below.trans ?_ (Below.mono ‹Below _ _ _› (by first | omega | (simp; done) | (simp; omega)))) | exact Below.refl _ _ | omega | (focus (simp; done)) | (focus (simp; omega)))) hhi) (by first | omega | (simp; done) | (simp; omega)) HGO.out.1 HGO.out.2).mono ?_
    rintro e w3 ⟨g, co, rfl, ho, hg1, hg2, hb3⟩
    have hz3 := hb3.size
    have hbw : Below w.heap.size w w3 := (by repeat (first | (with_reducible exact Below.refl _ _) | (with_reducible refine below_ov ?_ ?_) | (with_reducible refine Below.setCell ?_ ?_ _) | (with_reducible refine Below.alloc ?_ ?_ _) | (with_reducible refine Below.drew ?_) | (with_reducible refine below_drewN ?_ _) | (refine Below.trans ?_ (Below.mono ‹Below _ _ _› (by first | omega | (simp; done) | (simp; omega)))) | exact Below.refl _ _ | omega | (focus (simp; done)) | (focus (simp; omega))))
    go_wp2_with fail
    go_ret2
    have h := sf_row HX.out ho (w := w) (by omega) hbw
    rw [HX.out] at h
    exact h

end Go.Proofs.YtpckhpkbdanjoaaDoor

/-
  Walks: a way is followed: the program's and the reference's.-/
namespace Go.Proofs
open Go.RowKit Go.Shelf
shelf_lay Lays.n144 Nm 144 at Tryd as YtpckhpkbdanjoaaDoor.laysContains
end Go.Proofs
namespace Go.Proofs.YtpckhpkbdanjoaaDoor
set_option linter.unusedVariables false
set_option linter.unusedSimpArgs false
open Go.RowKit Go.Shelf

/-- The direction of a letter, or -1. -/
def ltr (b : Int) : Int := if b = 110 then 0 else if b = 101 then 1 else if b = 115 then 2 else if b = 119 then 3 else -1
theorem ltr_dL {d : Nat} (hd : d < 4) : ltr (dL d) = d := by
  have h4 : d = 0 ∨ d = 1 ∨ d = 2 ∨ d = 3 := by omega
  rcases h4 with rfl | rfl | rfl | rfl <;> rfl
theorem ltr_cases (b : Int) : ltr b = -1 ∧ b ≠ 110 ∧ b ≠ 101 ∧ b ≠ 115 ∧ b ≠ 119 ∨ ∃ d, d < 4 ∧ b = dL d ∧ ltr b = d := by
  by_cases h0 : b = 110
  · exact .inr ⟨0, by omega, h0, by rw [h0]; rfl⟩
  by_cases h1 : b = 101
  · exact .inr ⟨1, by omega, h1, by rw [h1]; rfl⟩
  by_cases h2 : b = 115
  · exact .inr ⟨2, by omega, h2, by rw [h2]; rfl⟩
  by_cases h3 : b = 119
  · exact .inr ⟨3, by omega, h3, by rw [h3]; rfl⟩
  exact .inl ⟨by simp [ltr, h0, h1, h2, h3], h0, h1, h2, h3⟩
/-- Where the first letters lead, if they lead anywhere. -/
def fwA (F : Nat → ByteArray) (n : Nat) (a : Int × Int) (s : ByteArray) : Nat → Option (Int × Int)
  | 0 => some a
  | k + 1 => match fwA F n a s k with
    | none => none
    | some p => if 0 ≤ ltr (byteAt s k) ∧ opP F n (stp p (ltr (byteAt s k)).toNat) = true then some (stp p (ltr (byteAt s k)).toNat) else none
def fwOk (F : Nat → ByteArray) (n : Nat) (r c : Int) (s : ByteArray) : Bool := sfOk F n r c && (decide (s.size ≤ 200) && (fwA F n (r, c) s s.size).isSome)
def fwP (F : Nat → ByteArray) (n : Nat) (r c : Int) (s : ByteArray) : Int × Int := if fwOk F n r c s = true then (fwA F n (r, c) s s.size).getD (0, 0) else (0, 0)
theorem fwA_none {F : Nat → ByteArray} {n : Nat} {a : Int × Int} {s : ByteArray} {k : Nat} (h : fwA F n a s k = none) : ∀ {m : Nat}, k ≤ m → fwA F n a s m = none
  | 0, hm => by
    obtain rfl : k = 0 := by omega
    cases h
  | m + 1, hm => by
    rcases Nat.lt_or_ge k (m + 1) with h1 | h1
    · rw [fwA, fwA_none h (show k ≤ m by omega)]
    · obtain rfl : k = m + 1 := by omega
      exact h
theorem fwA_step {F : Nat → ByteArray} {n : Nat} {a p : Int × Int} {s : ByteArray} {k d : Nat} (h : fwA F n a s k = some p) (hd : ltr (byteAt s k) = d) (ho : opP F n (stp p d) = true) : fwA F n a s (k + 1) = some (stp p d) := by
  rw [fwA, h]
  simp only [hd, Int.toNat_natCast, ho, and_true]
  rw [if_pos (by omega)]
theorem fwA_wall {F : Nat → ByteArray} {n : Nat} {a p : Int × Int} {s : ByteArray} {k d : Nat} (h : fwA F n a s k = some p) (hd : ltr (byteAt s k) = d) (ho : opP F n (stp p d) = false) : fwA F n a s (k + 1) = none := by
  rw [fwA, h]
  simp only [hd, Int.toNat_natCast, ho]
  rw [if_neg (by simp)]
theorem fwA_bad {F : Nat → ByteArray} {n : Nat} {a p : Int × Int} {s : ByteArray} {k : Nat} (h : fwA F n a s k = some p) (hd : ltr (byteAt s k) = -1) : fwA F n a s (k + 1) = none := by
  rw [fwA, h]
  simp only [hd]
  rw [if_neg (by omega)]
theorem fwA_open {F : Nat → ByteArray} {n : Nat} {a p : Int × Int} {s : ByteArray} (ha : opP F n a = true) : ∀ {k : Nat}, fwA F n a s k = some p → opP F n p = true
  | 0, h => by
    injection h with h
    rw [← h]; exact ha
  | k + 1, h => by
    rw [fwA] at h
    cases e : fwA F n a s k with
    | none => rw [e] at h; cases h
    | some q =>
      rw [e] at h
      simp only at h
      split at h
      · rename_i h1
        injection h with h
        rw [← h]; exact h1.2
      · cases h
theorem fw_no {F : Nat → ByteArray} {n : Nat} {r c : Int} {s : ByteArray} {k : Nat} (h : fwA F n (r, c) s k = none) (hk : k ≤ s.size) : fwOk F n r c s = false := by
  rw [fwOk, fwA_none h hk]
  simp
theorem dLs_get {d : Nat} (h : d < (⟨#[110, 101, 115, 119]⟩ : ByteArray).size) : (((⟨#[110, 101, 115, 119]⟩ : ByteArray)[d]).toNat : Int) = dL d := by
  have h4 : d = 0 ∨ d = 1 ∨ d = 2 ∨ d = 3 := by have : d < 4 := h; omega
  rcases h4 with rfl | rfl | rfl | rfl <;> rfl
set_option maxHeartbeats 1600000 in
theorem seLetter_any (b : Int) (w : World) :
    Calls Tryd.prog 84 #[.int .u8 b] w fun e w' => e = .returned (.int .i64 (ltr b)) ∧ w = w' := by
  go_enter Tryd.func84, Tryd.ntmps84
  go_wp2_with fail
  go_loop [3] (fun dv => ∃ d : Nat, d ≤ 4 ∧ dv = .int .i64 d ∧ Hid (∀ e, e < d → b ≠ dL e)) (fun dv => 4 - (intOf dv).toNat)
  case atStart => exact ⟨0, by omega, rfl, fun e he => by omega⟩
  case round =>
    obtain ⟨d, hd, rfl, he⟩ := hrel
    by_cases hd4 : d < 4
    · have hsz : d < (⟨#[110, 101, 115, 119]⟩ : ByteArray).size := hd4
      have hge := dLs_get hsz
      by_cases hb : b = dL d
      · have hq : (b == (((⟨#[110, 101, 115, 119]⟩ : ByteArray)[d]).toNat : Int)) = true := by rw [hge, hb]; simp
        have HX : Hid (ltr b = d) := by show _ = _; rw [hb]; exact ltr_dL hd4
        clear hb hge
        go_wp2_with fail
        go_ret
        exact ⟨ret_int HX.out.symm, rfl⟩
      · have hq : (b == (((⟨#[110, 101, 115, 119]⟩ : ByteArray)[d]).toNat : Int)) = false := by rw [hge]; simpa using hb
        have HX : Hid (∀ e, e < d + 1 → b ≠ dL e) := fun e h => by
          rcases Nat.lt_or_ge e d with h1 | h1
          · exact he.out e h1
          · obtain rfl : e = d := by omega
            exact hb
        clear hb hge
        go_wp2_with fail
        go_round
        case rel => exact ⟨d + 1, by omega, by go_num, HX.out⟩
        case measure => simp [intOf]; omega
    · obtain rfl : d = 4 := by omega
      have HX : Hid (ltr b = -1) := by
        show _ = _
        rcases ltr_cases b with h | ⟨d, hd, hb, _⟩
        · exact h.1
        · exact absurd hb (he.out d hd)
      go_wp2_with fail
      go_ret
      exact ⟨ret_int HX.out.symm, rfl⟩
theorem extract_one (s : ByteArray) {i : Nat} (hi : i < s.size) : s.extract i (i + 1) = ⟨#[s[i]]⟩ := by
  apply WideShapes.bytes_inj
  rw [ByteArray.data_extract, Array.toList_extract]
  simp only [List.extract_eq_take_drop]
  rw [List.take_drop]
  have h : s.data.toList[i]? = some s[i] := by rw [List.getElem?_eq_getElem (by simpa using hi)]; rfl
  apply List.ext_getElem?
  intro j
  simp only [List.getElem?_drop, List.getElem?_take]
  match j with
  | 0 => simp [h]
  | j + 1 => simp
theorem Contains_d (s : ByteArray) (i : Nat) (hi : i < s.size) (w : World) :
    Calls Tryd.prog 83 #[.string ⟨#[110, 101, 115, 119]⟩, .string (s.extract i (i + 1))] w fun e w' => e = .returned (.bool (decide (0 ≤ ltr (byteAt s i)))) ∧ w = w' := by
  have hcon := Any.strings_Contains_one YtpckhpkbdanjoaaDoor.laysContains ⟨#[110, 101, 115, 119]⟩ s[i] w
  change Calls Tryd.prog 83 _ _ (fun e w' => _) at hcon
  rw [extract_one s hi]
  refine hcon.mono fun e w' ⟨he, hw⟩ => ⟨?_, hw.symm⟩
  rw [he]
  congr 2
  rw [← byteAt_eq hi]
  generalize s[i] = b
  have key : ∀ n : Fin 256, decide (0 ≤ Lib.indexByte [110, 101, 115, 119] (UInt8.ofNat n.val)) = decide (0 ≤ ltr (n.val : Int)) := by decide +kernel
  have h := key ⟨b.toNat, b.toNat_lt⟩
  simp only [UInt8.ofNat_toNat] at h
  exact h

end Go.Proofs.YtpckhpkbdanjoaaDoor
