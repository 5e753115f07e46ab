/-
  Texts of this proof, one behind the other (part 6).
-/
import Derived.Test.YtpckhpkbdanjoaaDoorQ5
import Derived.BigRegion
/-
  Walks: the steps from a cell to all cells: the program's.-/
namespace Go.Proofs.YtpckhpkbdanjoaaDoor
set_option linter.unusedVariables false
set_option linter.unusedSimpArgs false
open Go.RowKit

/-- The letters of the directions, as a range over them reads them. -/
def dLs : ByteArray := ⟨#[110, 101, 115, 119]⟩
def setIter (w : World) (b : Nat) (s : ByteArray) (p : Nat) : World := { w with heap := w.heap.setIfInBounds b (.stringIter s p) }
theorem run_next_at {P : Program} (w : World) (b : Nat) (s : ByteArray) (pos : Nat) (ty : TypeId) (hb : w.heap[b]? = some (.stringIter s pos)) (h : pos < s.size) (ha : (s[pos]'h).toNat < 128) :
    (Instr.next (.pointer (some ⟨b, 0, none⟩)) true ty).run P w = .ok (.tuple #[.bool true, .int .i64 pos, .int .i32 (s[pos]'h).toNat]) (setIter w b s (pos + 1)) := by
  simp only [Instr.next, getObj, setObj, Sem.run_bind, Sem.run, hb, Result.andThen, h, if_true, decode_ascii s pos h ha]
  simp [goInt, Sem.run, hb, setIter]
theorem run_next_done {P : Program} (w : World) (b : Nat) (s : ByteArray) (pos : Nat) (ty : TypeId) (hb : w.heap[b]? = some (.stringIter s pos)) (h : ¬ pos < s.size) :
    (Instr.next (.pointer (some ⟨b, 0, none⟩)) true ty).run P w = .ok (.tuple #[.bool false]) w := by
  simp [Instr.next, getObj, Sem.run, hb, h]
theorem run_next_d {P : Program} (w : World) (b d : Nat) (ty : TypeId) (hb : w.heap[b]? = some (.stringIter dLs d)) (h : d < 4) :
    (Instr.next (.pointer (some ⟨b, 0, none⟩)) true ty).run P w = .ok (.tuple #[.bool true, .int .i64 d, .int .i32 (dL d)]) (setIter w b dLs (d + 1)) := by
  have h4 : d = 0 ∨ d = 1 ∨ d = 2 ∨ d = 3 := by omega
  rcases h4 with rfl | rfl | rfl | rfl
  · exact run_next_at w b dLs 0 ty hb (by decide) (by decide)
  · exact run_next_at w b dLs 1 ty hb (by decide) (by decide)
  · exact run_next_at w b dLs 2 ty hb (by decide) (by decide)
  · exact run_next_at w b dLs 3 ty hb (by decide) (by decide)
theorem setIter_size (w : World) (b : Nat) (s : ByteArray) (p : Nat) : (setIter w b s p).heap.size = w.heap.size := by simp [setIter]
theorem setIter_at {w : World} {b : Nat} (hb : b < w.heap.size) (s : ByteArray) (p : Nat) : (setIter w b s p).heap[b]? = some (.stringIter s p) := by simp [setIter, Array.getElem?_setIfInBounds, hb]
theorem setIter_other {w : World} {b k : Nat} (h : k ≠ b) (s : ByteArray) (p : Nat) : (setIter w b s p).heap[k]? = w.heap[k]? := by
  simp [setIter, Array.getElem?_setIfInBounds, Ne.symm h]
theorem setIter_below {a w : World} {B b : Nat} (h : Below B a w) (hb : B ≤ b) (s : ByteArray) (p : Nat) : Below B a (setIter w b s p) :=
  ⟨h.os, h.tape, h.output, by rw [setIter_size]; exact h.size, fun k hk => (setIter_other (by omega) s p).trans (h.block k hk)⟩
def qR (s : Bs) (i : Nat) : Int := (s.q i).1
def qC (s : Bs) (i : Nat) : Int := (s.q i).2
/-- Memory while the steps are reckoned: the numbers in block g, the queue in block q. -/
structure BMem (w0 w : World) (g q N : Nat) (co off cap : Nat) (s : Bs) : Prop where
  out : OwnL w g (g + 1) 3 1 (.slice (some ⟨g, 0, none⟩) N co) N N (fun i => .int .i64 (s.o i))
  que : Tl w q 2 off s.m cap (iiC (qR s) (qC s))
  gl : w0.heap.size ≤ g
  ql : w0.heap.size ≤ q
  gs : g < w.heap.size
  gq : g ≠ q
  bel : Below w0.heap.size w0 w
section
variable {w0 w w' : World} {g q N co off cap : Nat} {s : Bs}
theorem BMem.keep (h : BMem w0 w g q N co off cap s) (h1 : w'.heap[g]? = w.heap[g]?) (h2 : w'.heap[q]? = w.heap[q]?) (hs : w.heap.size ≤ w'.heap.size) (hb : Below w0.heap.size w0 w') : BMem w0 w' g q N co off cap s :=
  ⟨h.out.keep1 h1, h.que.keep h2 (Nat.lt_of_lt_of_le h.que.lt hs), h.gl, h.ql, Nat.lt_of_lt_of_le h.gs hs, h.gq, hb⟩
theorem BMem.below (h : BMem w0 w g q N co off cap s) (hb : Below w.heap.size w w') : BMem w0 w' g q N co off cap s :=
  h.keep (hb.block g h.gs) (hb.block q h.que.lt) hb.size (h.bel.trans (hb.mono h.bel.size))
/-- The queue's k-th cell. -/
theorem BMem.cell (h : BMem w0 w g q N co off cap s) {k : Nat} (hk : k < s.m) : w.cell? ⟨q, off + k * 2, none⟩ = some (.int .i64 (s.q k).1) ∧ w.cell? ⟨q, off + k * 2 + 1, none⟩ = some (.int .i64 (s.q k).2) :=
  ⟨h.que.at_ k 0 hk (by omega), h.que.at_ k 1 hk (by omega)⟩
theorem BMem.num (h : BMem w0 w g q N co off cap s) {i : Nat} (hi : i < N) : w.cell? ⟨g, i, none⟩ = some (.int .i64 (s.o i)) ∧ w.frozen? ⟨g, i, none⟩ = false := by
  obtain ⟨_, b, c⟩ := h.out.cell (by omega) (o := i) (by omega)
  exact ⟨c hi, b⟩
/-- A number is set. -/
theorem BMem.set (h : BMem w0 w g q N co off cap s) {i : Nat} (hi : i < N) (x : Int) : BMem w0 (w.setCell ⟨g, i, none⟩ (.int .i64 x)) g q N co off cap { s with o := updI s.o i x } := by
  refine ⟨(h.out.set (o := i) (by omega) _).congr fun o _ => ?_, h.que.keep (Deep.blk_setCell_other _ _ _ _ h.gq.symm) (by simp [World.setCell]; exact h.que.lt), h.gl, h.ql, by simp [World.setCell]; exact h.gs, h.gq, h.bel.setCell h.gl _⟩
  simp only [updI]
  split <;> rfl
/-- A cell more in the queue. -/
theorem BMem.push (h : BMem w0 w g q N co off cap s) {q' off' cap' : Nat} {p : Int × Int} (ht : Tl w' q' 2 off' (s.m + 1) cap' (iiC (qR { s with q := updP s.q s.m p, m := s.m + 1 }) (qC { s with q := updP s.q s.m p, m := s.m + 1 }))) (hg : w.grownBy w' (some q)) (hq : q' = q ∨ w.heap.size ≤ q') :
    BMem w0 w' g q' N co off' cap' { s with q := updP s.q s.m p, m := s.m + 1 } := by
  have hgs := h.gs
  refine ⟨h.out.keep1 (hg.block g h.gs (fun e => h.gq (by injection e))), ht, h.gl, ?_, Nat.lt_of_lt_of_le h.gs hg.size, ?_, h.bel.grown hg h.bel.size (fun k hk => by injection hk with e; rw [← e]; exact h.ql)⟩
  · have := h.bel.size
    have := h.ql
    omega
  · have := h.gq
    omega
end
theorem mulP_bd {F : Nat → ByteArray} {n : Nat} {p : Int × Int} (h : opP F n p = true) (h2 : n ≤ 12) (h4 : (F 0).size ≤ 12) : (0 : Int) ≤ p.1 * ((F 0).size : Int) ∧ p.1 * ((F 0).size : Int) ≤ 144 := by
  obtain ⟨a1, a2, a3, a4⟩ := opP_bd h
  obtain ⟨i, hi⟩ : ∃ i : Nat, p.1 = i := ⟨p.1.toNat, by omega⟩
  rw [hi]
  exact mulN_bd (i := i) (n := n) (by omega) h2 h4
theorem stepTo_p (p y : Int × Int) (d : Nat) (w : World) (hy : stp p d = y) (hd : d < 4) (hr : -1000 ≤ p.1) (hr' : p.1 ≤ 1000) (hc : -1000 ≤ p.2) (hc' : p.2 ≤ 1000) :
    Calls Tryd.prog 75 #[.agg #[.int .i64 p.1, .int .i64 p.2], .int .u8 (dL d)] w fun e w' => e = .returned (.agg #[.int .i64 y.1, .int .i64 y.2]) ∧ Below w.heap.size w w' := by
  subst hy
  exact stepTo_any p.1 p.2 d w hd hr hr' hc hc'
theorem dL_wrap (d : Nat) : IntKind.u8.wrap (dL d) = dL d := by unfold dL; split <;> (try split) <;> (try split) <;> rfl
/-- The first cell in the queue. -/
theorem BMem.start {w0 w : World} {g N co : Nat} {F : Nat → ByteArray} {a : Int × Int} (ho : OwnL w g (g + 1) 3 1 (.slice (some ⟨g, 0, none⟩) N co) N N (fun _ => .int .i64 (-1))) (ha : ixF F a < N) (hg : w0.heap.size ≤ g) (hg' : g < w.heap.size) (hb : Below w0.heap.size w0 w) :
    BMem w0 ((w.setCell ⟨g, ixF F a, none⟩ (.int .i64 0)).alloc (.cells #[.int .i64 a.1, .int .i64 a.2] 38)) g w.heap.size N co 0 1 (bs0 F a) := by
  have hsz : (w.setCell ⟨g, ixF F a, none⟩ (.int .i64 0)).heap.size = w.heap.size := by simp [World.setCell]
  refine ⟨?_, ?_, hg, hb.size, (by first | omega | (simp; done) | (simp; omega)), by omega, (hb.setCell hg _).alloc (by rw [hsz]; exact hb.size) _⟩
  · refine OwnL.keep1 (w := w.setCell ⟨g, ixF F a, none⟩ (.int .i64 0)) ((ho.set (o := ixF F a) (by omega) _).congr fun o _ => ?_) (Deep.blk_alloc_lt _ _ _ (by rw [hsz]; exact hg'))
    simp only [bs0, updI]
    split <;> rfl
  · have hh : ((w.setCell ⟨g, ixF F a, none⟩ (.int .i64 0)).alloc (.cells #[.int .i64 a.1, .int .i64 a.2] 38)).heap[w.heap.size]? = some (.cells #[.int .i64 a.1, .int .i64 a.2] 38 (0, 0)) := by
      have := heap_alloc_new (w.setCell ⟨g, ixF F a, none⟩ (.int .i64 0)) (.cells #[.int .i64 a.1, .int .i64 a.2] 38)
      rw [hsz] at this
      exact this
    refine ⟨(by first | omega | (simp; done) | (simp; omega)), Nat.le_refl _, by unfold maxLen; omega, fun o => by simp only [World.frozen?]; rw [hh]; simp, fun j hj => ?_, fun i j hi hj => ?_⟩
    · simp only [World.cell?, hh, Nat.zero_add]
      match j, hj with
      | 0, _ => rfl
      | 1, _ => rfl
    · have hi0 : i = 0 := by simp [bs0] at hi; omega
      subst hi0
      simp only [World.cell?, hh, Nat.zero_add, Nat.zero_mul]
      match j, hj with
      | 0, _ => rfl
      | 1, _ => rfl
theorem infoCell2 : (Tryd.prog.info? 38).map (fun i => (i.zero, i.size, i.bytes)) = some (some (.agg #[.int .i64 0, .int .i64 0]), 2, 16) := by kernel_rfl
set_option maxRecDepth 100000 in
set_option maxHeartbeats 3200000 in
theorem stepsFrom_any (F : Nat → ByteArray) (n : Nat) (r c : Int) (lo hi : Nat) (v : Value) (w : World) (hv : Sl w lo hi 1 v n (sC F)) (hhi : hi ≤ w.heap.size) (hg : flB F n = true) (ho : opB F n r c = true) :
    Calls Tryd.prog 72 #[v, .agg #[.int .i64 r, .int .i64 c]] w fun e w' => ∃ g, e = .returned (.slice (some ⟨g, 0, none⟩) (n * (F 0).size) (n * (F 0).size)) ∧ OwnL w' g (g + 1) 3 1 (.slice (some ⟨g, 0, none⟩) (n * (F 0).size) (n * (F 0).size)) (n * (F 0).size) (n * (F 0).size) (fun i => .int .i64 (stF F n (r, c) i)) ∧ w.heap.size ≤ g ∧ g < w'.heap.size ∧ Below w.heap.size w w' := by
  obtain ⟨A, cap, rfl, hcap, hA⟩ := hv.open_
  obtain ⟨g1, g2, g3, g4, _, _⟩ := flB_facts hg
  obtain ⟨blk, off, rfl, h1, h2, h3⟩ := hA (by omega)
  have c0 : w.cell? ⟨blk, off, none⟩ = some (.string (F 0)) := by simpa [sC] using h3 0 0 (by omega) (by omega)
  have l0 : blk < w.heap.size := by omega
  have hop : opP F n (r, c) = true := ho
  obtain ⟨N, hN⟩ : ∃ N, N = n * (F 0).size := ⟨_, rfl⟩
  have hN1 : 1 ≤ N ∧ N ≤ 144 := by
    have h5 : n * (F 0).size ≤ 12 * 12 := Nat.mul_le_mul g2 g4
    have h6 : 1 * 1 ≤ n * (F 0).size := Nat.mul_le_mul g1 g3
    omega
  have m1 : (n : Int) * ((F 0).size : Int) = (N : Int) := by rw [hN]; push_cast; rfl
  have m2 : IntKind.i64.wrap ((n : Int) * ((F 0).size : Int)) = (N : Int) := by rw [m1]; exact IntWalk.i64_in _ (by omega)
  have HN := hide hN
  have mb0 : (0 : Int) ≤ r * ((F 0).size : Int) ∧ r * ((F 0).size : Int) ≤ 144 := mulP_bd hop g2 g4
  have z0 : IntKind.i64.wrap (r * ((F 0).size : Int)) = r * ((F 0).size : Int) := IntWalk.i64_in _ (by simpa using (show -9223372036854775808 ≤ r * ((F 0).size : Int) ∧ r * ((F 0).size : Int) ≤ 9223372036854775807 by omega))
  have HA0 : Hid (r * ((F 0).size : Int) + c = (ixF F (r, c) : Int)) := ix_cast (p := (r, c)) ho
  have HI0 : Hid (ixF F (r, c) < N) := by show _ < _; rw [hN]; exact ix_lt (p := (r, c)) ho
  rw [← hN]
  have bd0 := opP_bd hop
  have m0 : r * ((F 0).size : Int) + c = (ixF F (r, c) : Int) := HA0.out
  have hixN := HI0.out
  have HG := hide hg
  have HOP := hide hop
  obtain ⟨ii, hii, iz0, iz1, iz2⟩ := info_parts infoCell2
  clear hA hN h3 hg hop ho
  go_enter Tryd.func72, Tryd.ntmps72
  go_wp2_with fail
  refine (Repeat_any N (w.heap.size + 1) _ (by simpa using heap_alloc_new (w.alloc (.cells #[.int .i64 r, .int .i64 c] 38)) (.cells #[.int .i64 (-1)] 3)) hN1.1 (by omega)).mono ?_
  rintro e w1 ⟨g, rfl, hog, hgl, hgs, hb1⟩
  have hz1 := hb1.size
  simp at hz1 hgl
  have px0 : w1.cell? ⟨w.heap.size, 0, none⟩ = some (.int .i64 r) := (hb1.cell (p := ⟨w.heap.size, 0, none⟩) (by simp; omega)).trans ((World.cell?_alloc_lt _ _ _ (by simp)).trans (World.cell?_alloc_new _ _ _ _))
  have px1 : w1.cell? ⟨w.heap.size, 1, none⟩ = some (.int .i64 c) := (hb1.cell (p := ⟨w.heap.size, 1, none⟩) (by simp; omega)).trans ((World.cell?_alloc_lt _ _ _ (by simp)).trans (World.cell?_alloc_new _ _ _ _))
  obtain ⟨⟨u0, hu0⟩, hf0, _⟩ := hog.cell (by omega) (o := ixF F (r, c)) (by omega)
  have hb01 : Below w.heap.size w w1 := (by repeat (first | (with_reducible exact Below.refl _ _) | (with_reducible refine below_ov ?_ ?_) | (with_reducible refine Below.setCell ?_ ?_ _) | (with_reducible refine Below.alloc ?_ ?_ _) | (with_reducible refine Below.drew ?_) | (with_reducible refine below_drewN ?_ _) | (refine Below.trans ?_ (Below.mono ‹Below _ _ _› (by first | omega | (simp; done) | (simp; omega)))) | exact Below.refl _ _ | omega | (focus (simp; done)) | (focus (simp; omega))))
  have hst := BMem.start (F := F) (a := (r, c)) (w0 := w) hog hixN (by omega) hgs hb01
  have HST := hide hst
  have hne0 : ¬ g = w.heap.size := by omega
  have lp0 : w.heap.size < w1.heap.size := by omega
  clear hst
  go_wp2_with fail
  clear px0 px1 hu0 hf0 z0 m0
  go_loopg [7, 8] N (fun gn qv kv wr => ∃ (k f q off cap : Nat) (s : Bs), qv = .slice (some ⟨q, off, none⟩) s.m cap ∧ kv = .int .i64 k ∧ k ≤ s.m ∧ N - k ≤ gn ∧ N ≤ f + k ∧ Hid (BInv F n (r, c) s) ∧ Hid (bfs F n f k s = bsF F n (r, c)) ∧ Hid (BMem w wr g q N N off cap s))
  case atStart => exact ⟨0, N, w1.heap.size, 0, 1, bs0 F (r, c), by simp [bs0], rfl, by simp [bs0], by omega, by omega, BInv.start HOP.out, by show _ = _; rw [HN.out]; rfl, show BMem _ _ _ _ _ _ _ _ _ from by simpa using HST.out⟩
  case round =>
    obtain ⟨k, f, q, off, cap, s, rfl, rfl, hk, hgk, hfk, HI, HB, HM⟩ := hrel
    have hmN : s.m ≤ N := by rw [HN.out]; exact HI.out.m_le
    by_cases hkm : k < s.m
    · obtain ⟨f, rfl⟩ : ∃ f', f = f' + 1 := ⟨f - 1, by omega⟩
      have HP : Hid (opP F n (s.q k) = true ∧ 0 ≤ s.o (ixF F (s.q k))) := HI.out.hq k hkm
      obtain ⟨wo, ewo⟩ : ∃ wo : World, wo = wr := ⟨_, rfl⟩
      subst ewo
      have hwo := HM.out.bel.size
      go_wp2_with fail
      go_loopg [7] 5 (fun gi qv wr => ∃ (d q' off' cap' : Nat) (s' : Bs), d ≤ 4 ∧ 4 - d < gi ∧ qv = .slice (some ⟨q', off', none⟩) s'.m cap' ∧ Hid (s' = pshN F n (s.q k) d s) ∧ Hid (BMem w wr g q' N N off' cap' s') ∧ Hid (wr.heap[wo.heap.size]? = some (.stringIter dLs d)) ∧ wo.heap.size ≠ g ∧ wo.heap.size ≠ q' ∧ wo.heap.size < wr.heap.size)
      case atStart => exact ⟨0, q, off, cap, s, by omega, by omega, rfl, rfl, HM.out.below ((Below.refl _ _).alloc (Nat.le_refl _) _), World.iter_heap _ _ _, by have := HM.out.gs; omega, by have := HM.out.que.lt; omega, by simp [World.iter]⟩
      case round =>
        obtain ⟨d, q', off', cap', s', hd, hgi, rfl, HS, HM', HIT, hng, hnq, hil⟩ := hrel
        obtain ⟨a1, a2, a3, a4⟩ := HI.out.pshN HP.out.1 HP.out.2 hd
        rw [← HS.out] at a1 a2 a3 a4
        have HI' := hide a1
        have HO' := hide a2
        have hqk : s'.q k = s.q k := a4 k hkm
        have HQK := hide hqk
        have hkm' : k < s'.m := by omega
        have hm'N : s'.m ≤ N := by rw [HN.out]; exact a1.m_le
        clear a1 a2 a3 a4 hqk
        by_cases hd4 : d < 4
        · have hnx := fun ty => run_next_d (P := Tryd.prog) wr wo.heap.size d ty HIT.out hd4
          obtain ⟨W1, hW1⟩ : ∃ W1, W1 = setIter wr wo.heap.size dLs (d + 1) := ⟨_, rfl⟩
          rw [← hW1] at hnx
          have M1 : Hid (BMem w W1 g q' N N off' cap' s') := by
            show BMem _ _ _ _ _ _ _ _ _
            rw [hW1]
            exact HM'.out.keep (setIter_other hng.symm _ _) (setIter_other hnq.symm _ _) (by rw [setIter_size]; exact Nat.le_refl _) (setIter_below HM'.out.bel hwo _ _)
          have I1 : Hid (W1.heap[wo.heap.size]? = some (.stringIter dLs (d + 1))) := by show _ = _; rw [hW1]; exact setIter_at hil _ _
          have hil1 : wo.heap.size < W1.heap.size := by rw [hW1, setIter_size]; exact hil
          clear hW1
          obtain ⟨qc0, qc1⟩ := M1.out.cell hkm'
          rw [HQK.out] at qc0 qc1
          have dw := dL_wrap d
          have hdw : IntKind.wrap .u8 (dL d) = dL d := dw
          obtain ⟨y, hy⟩ : ∃ y, stp (s.q k) d = y := ⟨_, rfl⟩
          have HY := hide hy
          obtain ⟨b1, b2, b3, b4⟩ := opP_bd HP.out.1
          have lq1 := M1.out.que.lt
          clear hy
          go_wp2_with fail
          refine (stepTo_p (s.q k) y d _ HY.out hd4 (by omega) (by omega) (by omega) (by omega)).mono ?_
          rintro e w2 ⟨rfl, hb2⟩
          have hz2 := hb2.size
          clear qc0 qc1 hnx
          go_wp2_with fail
          have hbw2 : Below w.heap.size w w2 := M1.out.bel.trans (hb2.mono M1.out.bel.size)
          have hzw2 := hbw2.size
          refine (isOpen_any F n y.1 y.2 lo hi _ _ (hv.below (B := w.heap.size) (hbw2.alloc hbw2.size _) hhi) (by simp; omega) HG.out).mono ?_
          rintro e w3 ⟨rfl, hb3⟩
          have hz3 := hb3.size
          simp at hz3
          have ny0 : w3.cell? ⟨w2.heap.size, 0, none⟩ = some (.int .i64 y.1) := (hb3.cell (p := ⟨w2.heap.size, 0, none⟩) (by simp)).trans (World.cell?_alloc_new _ _ _ _)
          have ny1 : w3.cell? ⟨w2.heap.size, 1, none⟩ = some (.int .i64 y.2) := (hb3.cell (p := ⟨w2.heap.size, 1, none⟩) (by simp)).trans (World.cell?_alloc_new _ _ _ _)
          have M3 : Hid (BMem w w3 g q' N N off' cap' s') := ((M1.out.below hb2).below ((Below.refl _ _).alloc (Nat.le_refl _) _)).below hb3
          have I3 : Hid (w3.heap[wo.heap.size]? = some (.stringIter dLs (d + 1))) := by
            show _ = _
            rw [hb3.block _ (by simp; omega), Deep.blk_alloc_lt _ _ _ (by omega), hb2.block _ hil1]
            exact I1.out
          have hly : w2.heap.size < w3.heap.size := by omega
          have hlq := M3.out.que.lt
          have hlg := M3.out.gs
          cases e1 : opB F n y.1 y.2 with
          | false =>
            have HS' : Hid (s' = pshN F n (s.q k) (d + 1) s) := by
              show _ = _
              rw [pshN, ← HS.out, psh, pshB, HY.out, show opP F n y = false from e1]
              rfl
            go_wp2_with fail
            go_roundg (4 - d)
            case measure => omega
            case rel => exact ⟨d + 1, q', off', cap', s', by omega, by omega, rfl, HS', M3, I3, hng, hnq, by omega⟩
          | true =>
            have hoy : opP F n y = true := e1
            have mb := mulP_bd hoy g2 g4
            have z0 : IntKind.i64.wrap (y.1 * ((F 0).size : Int)) = y.1 * ((F 0).size : Int) := IntWalk.i64_in _ (by omega)
            have m0 := ix_cast hoy
            have hiy : ixF F y < N := by rw [HN.out]; exact ix_lt hoy
            obtain ⟨oc, of⟩ := M3.out.num hiy
            have HOY := hide hoy
            obtain ⟨y1, y2, y3, y4⟩ := opP_bd hoy
            cases e2 : decide (s'.o (ixF F y) < 0) with
            | false =>
              have HS' : Hid (s' = pshN F n (s.q k) (d + 1) s) := by
                show _ = _
                rw [pshN, ← HS.out, psh, pshB, HY.out, e2]
                simp
              clear hoy
              go_wp2_with fail
              go_roundg (4 - d)
              case measure => omega
              case rel => exact ⟨d + 1, q', off', cap', s', by omega, by omega, rfl, HS', M3, I3, hng, hnq, by omega⟩
            | true =>
              clear hoy
              have mbp := mulP_bd HP.out.1 g2 g4
              have zp : IntKind.i64.wrap ((s.q k).1 * ((F 0).size : Int)) = (s.q k).1 * ((F 0).size : Int) := IntWalk.i64_in _ (by omega)
              have mp := ix_cast HP.out.1
              have hip : ixF F (s.q k) < N := by rw [HN.out]; exact ix_lt HP.out.1
              obtain ⟨pc, _⟩ := M3.out.num hip
              obtain ⟨qc0, qc1⟩ := M3.out.cell hkm'
              rw [HQK.out] at qc0 qc1
              have hob := HI'.out.hb (ixF F (s.q k))
              have zo : IntKind.i64.wrap (s'.o (ixF F (s.q k)) + 1) = s'.o (ixF F (s.q k)) + 1 := IntWalk.i64_in _ (by omega)
              go_wp2_with fail
              go_region
              obtain ⟨W4, hW4⟩ : ∃ W4, W4 = (w3.setCell ⟨g, ixF F y, none⟩ (.int .i64 (s'.o (ixF F (s.q k)) + 1))).drew := ⟨_, rfl⟩
              rw [← hW4]
              have M4 : BMem w W4 g q' N N off' cap' { s' with o := updI s'.o (ixF F y) (s'.o (ixF F (s.q k)) + 1) } := by
                rw [hW4]
                exact (M3.out.set hiy _).keep rfl rfl (Nat.le_refl _) (Below.drew (M3.out.set hiy _).bel)
              have hz4 : W4.heap.size = w3.heap.size := by rw [hW4]; simp [World.setCell]
              have hne4 : w2.heap.size ≠ g := by have := M1.out.gs; omega
              have hk4 : ∀ b, b ≠ g → W4.heap[b]? = w3.heap[b]? := fun b hb => by rw [hW4]; exact Deep.blk_setCell_other _ _ _ _ hb
              have ny0' : W4.cell? ⟨w2.heap.size, 0, none⟩ = some (.int .i64 y.1) := (World.cell?_of_block (a := ⟨w2.heap.size, 0, none⟩) (hk4 _ hne4)).trans ny0
              have ny1' : W4.cell? ⟨w2.heap.size, 1, none⟩ = some (.int .i64 y.2) := (World.cell?_of_block (a := ⟨w2.heap.size, 1, none⟩) (hk4 _ hne4)).trans ny1
              have I4 : Hid (W4.heap[wo.heap.size]? = some (.stringIter dLs (d + 1))) := (hk4 _ hng).trans I3.out
              have HS4 : Hid (pshN F n (s.q k) (d + 1) s = ⟨updI s'.o (ixF F y) (s'.o (ixF F (s.q k)) + 1), updP s'.q s'.m y, s'.m + 1⟩) := by
                show _ = _
                rw [pshN, ← HS.out, psh, pshB, HY.out, show opP F n y = true from e1, e2]
                rfl
              have HM4 := hide M4
              have M5 : BMem w (W4.alloc (.cells #[.int .i64 y.1, .int .i64 y.2] 38)) g q' N N off' cap' { s' with o := updI s'.o (ixF F y) (s'.o (ixF F (s.q k)) + 1) } := M4.below ((Below.refl _ _).alloc (Nat.le_refl _) _)
              obtain ⟨q2, off2, cap2, W6, hrun, ht6, hg6, hq6⟩ := run_append_tl (P := Tryd.prog) 26 26 38 ii _ 2 16 Tryd.underlying26 hii iz0 iz1 iz2 rfl (by decide) M5.que (c' := iiC (qR ⟨updI s'.o (ixF F y) (s'.o (ixF F (s.q k)) + 1), updP s'.q s'.m y, s'.m + 1⟩) (qC ⟨updI s'.o (ixF F y) (s'.o (ixF F (s.q k)) + 1), updP s'.q s'.m y, s'.m + 1⟩)) ⟨W4.heap.size, 0, none⟩ 1
                (fun j u hu => by
                  rw [Addr.add_lit, Nat.zero_add]
                  refine (World.cell?_alloc_new _ _ _ _).trans ?_
                  match j, hu with
                  | 0, hu => simpa [List.range, List.range.loop, iiC, qR, updP] using hu
                  | 1, hu => simpa [List.range, List.range.loop, iiC, qC, updP] using hu)
                (fun j hj => by unfold iiC; split <;> rfl)
                (fun i j hi hj => by
                  have : ¬ i = s'.m := by show ¬ i = s'.m; simp at hi; omega
                  simp only [iiC, qR, qC, updP, this, if_false])
                (by unfold maxLen; simp; omega) (by simp; omega)
              have M6 := M5.push ht6 hg6 hq6
              have HM6 := hide M6
              have hlt5 : wo.heap.size < (W4.alloc (.cells #[.int .i64 y.1, .int .i64 y.2] 38)).heap.size := by simp; omega
              have I6 : Hid (W6.heap[wo.heap.size]? = some (.stringIter dLs (d + 1))) := (hg6.block _ hlt5 (fun e => hnq (by injection e))).trans ((Deep.blk_alloc_lt _ _ _ (by omega)).trans I4.out)
              have hz6 := hg6.size
              have hnq2 : wo.heap.size ≠ q2 := by simp at hq6 hlt5; omega
              have hrun' : (Builtin.append_ #[26, 26] 26 #[.slice (some ⟨q', off', none⟩) s'.m cap', .slice (some ⟨W4.heap.size, 0, none⟩) 1 1]).run Tryd.prog (W4.alloc (.cells #[.int .i64 y.1, .int .i64 y.2] 38)) = .ok (.slice (some ⟨q2, off2, none⟩) (s'.m + 1) cap2) W6 := hrun
              have HRUN := hide hrun'
              have HZ4 := hide hz4
              clear qc0 qc1 pc oc of mb z0 m0 mbp zp mp zo hrun hrun' ht6 M4 M5 M6 hk4 hW4 ny0 ny1 hq6 hg6 hz4
              go_wp2_with (at_builtin; refine Lib.wpList_append_run _ rfl _ _ _ _ rfl _ _ rfl rfl _ _ HRUN.out ?_)
              go_wp2_with fail
              go_roundg (4 - d)
              case measure => omega
              case rel => exact ⟨d + 1, q2, off2, cap2, _, by omega, by omega, rfl, HS4.out.symm, HM6.out, I6, hng, hnq2, by simp at hz6 hlt5; omega⟩
        · obtain rfl : d = 4 := by omega
          have hnx := fun ty => run_next_done (P := Tryd.prog) wr wo.heap.size dLs 4 ty HIT.out (by decide)
          go_wp2_with fail
          go_roundg (N - (k + 1))
          case measure => omega
          case rel => exact ⟨k + 1, f, q', off', cap', s', rfl, by go_num, by omega, by omega, by omega, HI'.out, by show _ = _; rw [HS.out, ← bfs_next hkm]; exact HB.out, HM'.out⟩
    · obtain rfl : k = s.m := by omega
      have HE : Hid (s = bsF F n (r, c)) := by show _ = _; rw [← HB.out, bfs_done (Nat.lt_irrefl _)]
      go_wp2_with fail
      go_ret
      refine ⟨g, rfl, ?_, HM.out.gl, HM.out.gs, HM.out.bel⟩
      have h := HM.out.out
      rw [HE.out] at h
      exact h

end Go.Proofs.YtpckhpkbdanjoaaDoor

/-
  Walks: the steps from a cell to all cells: the reference's.-/
namespace Go.Proofs.YtpckhpkbdanjoaaDoor
set_option linter.unusedVariables false
set_option linter.unusedSimpArgs false
open Go.RowKit

/-- Memory while the reference reckons: the numbers in block g, what is left of the queue, from the k-th on, in block q. -/
structure BMk (w0 w : World) (g q N co off cap k : Nat) (s : Bs) : Prop where
  out : OwnL w g (g + 1) 3 1 (.slice (some ⟨g, 0, none⟩) N co) N N (fun i => .int .i64 (s.o i))
  que : Tl w q 2 off (s.m - k) cap (fun i => iiC (qR s) (qC s) (k + i))
  gl : w0.heap.size ≤ g
  ql : w0.heap.size ≤ q
  gs : g < w.heap.size
  gq : g ≠ q
  bel : Below w0.heap.size w0 w
section
variable {w0 w w' : World} {g q N co off cap k : Nat} {s : Bs}
theorem BMk.keep (h : BMk w0 w g q N co off cap k s) (h1 : w'.heap[g]? = w.heap[g]?) (h2 : w'.heap[q]? = w.heap[q]?) (hs : w.heap.size ≤ w'.heap.size) (hb : Below w0.heap.size w0 w') : BMk w0 w' g q N co off cap k s :=
  ⟨h.out.keep1 h1, h.que.keep h2 (Nat.lt_of_lt_of_le h.que.lt hs), h.gl, h.ql, Nat.lt_of_lt_of_le h.gs hs, h.gq, hb⟩
theorem BMk.below (h : BMk w0 w g q N co off cap k s) (hb : Below w.heap.size w w') : BMk w0 w' g q N co off cap k s :=
  h.keep (hb.block g h.gs) (hb.block q h.que.lt) hb.size (h.bel.trans (hb.mono h.bel.size))
theorem BMk.cell (h : BMk w0 w g q N co off cap k s) (hk : k < s.m) : w.cell? ⟨q, off, none⟩ = some (.int .i64 (s.q k).1) ∧ w.cell? ⟨q, off + 1, none⟩ = some (.int .i64 (s.q k).2) := by
  have a := h.que.at_ 0 0 (by omega) (by omega)
  have b := h.que.at_ 0 1 (by omega) (by omega)
  simp only [Nat.zero_mul, Nat.add_zero] at a b
  exact ⟨a, b⟩
theorem BMk.num (h : BMk w0 w g q N co off cap k s) {i : Nat} (hi : i < N) : w.cell? ⟨g, i, none⟩ = some (.int .i64 (s.o i)) ∧ w.frozen? ⟨g, i, none⟩ = false := by
  obtain ⟨_, b, c⟩ := h.out.cell (by omega) (o := i) (by omega)
  exact ⟨c hi, b⟩
theorem BMk.set (h : BMk w0 w g q N co off cap k s) {i : Nat} (hi : i < N) (x : Int) : BMk w0 (w.setCell ⟨g, i, none⟩ (.int .i64 x)) g q N co off cap k { s with o := updI s.o i x } := by
  refine ⟨(h.out.set (o := i) (by omega) _).congr fun o _ => ?_, h.que.keep (Deep.blk_setCell_other _ _ _ _ h.gq.symm) (by simp [World.setCell]; exact h.que.lt), h.gl, h.ql, by simp [World.setCell]; exact h.gs, h.gq, h.bel.setCell h.gl _⟩
  simp only [updI]
  split <;> rfl
/-- The first one is taken. -/
theorem BMk.tail (h : BMk w0 w g q N co off cap k s) (hk : k < s.m) : BMk w0 w g q N co (if cap = 1 then off else off + 2) (cap - 1) (k + 1) s := by
  have hq := h.que
  rw [show s.m - k = s.m - (k + 1) + 1 by omega] at hq
  exact ⟨h.out, hq.tail.congr fun i j _ _ => by rw [show k + (i + 1) = k + 1 + i by omega], h.gl, h.ql, h.gs, h.gq, h.bel⟩
theorem BMk.push (h : BMk w0 w g q N co off cap k s) {q' off' cap' : Nat} {p : Int × Int} (ht : Tl w' q' 2 off' (s.m + 1 - k) cap' (fun i => iiC (qR { s with q := updP s.q s.m p, m := s.m + 1 }) (qC { s with q := updP s.q s.m p, m := s.m + 1 }) (k + i))) (hg : w.grownBy w' (some q)) (hq : q' = q ∨ w.heap.size ≤ q') :
    BMk w0 w' g q' N co off' cap' k { s with q := updP s.q s.m p, m := s.m + 1 } := by
  have hgs := h.gs
  refine ⟨h.out.keep1 (hg.block g h.gs (fun e => h.gq (by injection e))), ht, h.gl, ?_, Nat.lt_of_lt_of_le h.gs hg.size, ?_, h.bel.grown hg h.bel.size (fun k hk => by injection hk with e; rw [← e]; exact h.ql)⟩
  · have := h.bel.size
    have := h.ql
    omega
  · have := h.gq
    omega
theorem BMem.bmk (h : BMem w0 w g q N co off cap s) : BMk w0 w g q N co off cap 0 s :=
  ⟨h.out, h.que.congr fun i j _ _ => by rw [Nat.zero_add], h.gl, h.ql, h.gs, h.gq, h.bel⟩
end
theorem rep_row : ∀ i : Nat, List.replicate i (Value.int .i64 (-1)) = rowL (iC (fun _ => -1)) 1 i
  | 0 => rfl
  | i + 1 => by rw [List.replicate_succ', rep_row i, rowL]; rfl
theorem seStep_p (p y : Int × Int) (d : Nat) (w : World) (hy : stp p d = y) (hd : d < 4) (hr : -1000 ≤ p.1) (hr' : p.1 ≤ 1000) (hc : -1000 ≤ p.2) (hc' : p.2 ≤ 1000) :
    Calls Tryd.prog 85 #[.agg #[.int .i64 p.1, .int .i64 p.2], .int .i64 d] w fun e w' => e = .returned (.agg #[.int .i64 y.1, .int .i64 y.2]) ∧ Below w.heap.size w w' := by
  subst hy
  exact seStep_any p.1 p.2 d w hd hr hr' hc hc'
theorem mix_store {P : Program} {ops : Array Oper} {C : World → Prop} {Q : Act → World → Prop} {k : Nat} {r : List (Nat × Bool)} {a : Act} {w : World} (o : Oper) (w' : World) (hk : ops[k]? = some o) (hw : Region.wanted o (yielded ops a.tmps) = true) (hv : (execOp a.eval o).run P w = .ok .skip w') (hC : C w')
    (h : wpMix P ops C Q r (a.put o.dst undef) w') : wpMix P ops C Q ((k, false) :: r) a w := by
  show eOp P ops k _ a w
  unfold eOp
  simp only [hk, hw, if_true, hv, goesUpon]
  exact ⟨hC, h⟩
theorem seIndex_p (F : Nat → ByteArray) (n : Nat) (p : Int × Int) (lo hi : Nat) (v : Value) (w : World) (hv : Sl w lo hi 1 v n (sC F)) (hhi : hi ≤ w.heap.size) (hg : flB F n = true) (ho : opP F n p = true) :
    Calls Tryd.prog 91 #[v, .agg #[.int .i64 p.1, .int .i64 p.2]] w fun e w' => e = .returned (.int .i64 (ixF F p)) ∧ Below w.heap.size w w' := seIndex_any F n p.1 p.2 lo hi v w hv hhi hg ho
set_option maxRecDepth 100000 in
set_option maxHeartbeats 3200000 in
theorem seSteps_any (F : Nat → ByteArray) (n : Nat) (r c : Int) (lo hi : Nat) (v : Value) (w : World) (hv : Sl w lo hi 1 v n (sC F)) (hhi : hi ≤ w.heap.size) (hg : flB F n = true) (ho : opB F n r c = true) :
    Calls Tryd.prog 67 #[v, .agg #[.int .i64 r, .int .i64 c]] w fun e w' => ∃ g co, e = .returned (.slice (some ⟨g, 0, none⟩) (n * (F 0).size) co) ∧ OwnL w' g (g + 1) 3 1 (.slice (some ⟨g, 0, none⟩) (n * (F 0).size) co) (n * (F 0).size) (n * (F 0).size) (fun i => .int .i64 (stF F n (r, c) i)) ∧ w.heap.size ≤ g ∧ g < w'.heap.size ∧ Below w.heap.size w w' := by
  obtain ⟨A, capF, rfl, hcap, hA⟩ := hv.open_
  obtain ⟨g1, g2, g3, g4, _, _⟩ := flB_facts hg
  obtain ⟨blk, offF, rfl, h1, h2, h3⟩ := hA (by omega)
  have c0 : w.cell? ⟨blk, offF, none⟩ = some (.string (F 0)) := by simpa [sC] using h3 0 0 (by omega) (by omega)
  have l0 : blk < w.heap.size := by omega
  have hop : opP F n (r, c) = true := ho
  obtain ⟨N, hN⟩ : ∃ N, N = n * (F 0).size := ⟨_, rfl⟩
  have hN1 : 1 ≤ N ∧ N ≤ 144 := by
    have h5 : n * (F 0).size ≤ 12 * 12 := Nat.mul_le_mul g2 g4
    have h6 : 1 * 1 ≤ n * (F 0).size := Nat.mul_le_mul g1 g3
    omega
  have m1 : (n : Int) * ((F 0).size : Int) = (N : Int) := by rw [hN]; push_cast; rfl
  have m2 : IntKind.i64.wrap ((n : Int) * ((F 0).size : Int)) = (N : Int) := by rw [m1]; exact IntWalk.i64_in _ (by omega)
  have HN := hide hN
  have HI0 : Hid (ixF F (r, c) < N) := by show _ < _; rw [hN]; exact ix_lt (p := (r, c)) ho
  rw [← hN]
  have bd0 := opP_bd hop
  have hixN := HI0.out
  have HG := hide hg
  have HOP := hide hop
  obtain ⟨ii, hii, iz0, iz1, iz2⟩ := info_parts infoCell2
  obtain ⟨ij, hij, jz0, jz1, jz2⟩ := info_parts infoI1
  clear hA hN h3 hg hop ho
  go_enter Tryd.func67, Tryd.ntmps67
  go_wp2_with fail
  go_loopw [5, 6] (fun ov iv wr => ∃ (i : Nat) (A : Option Addr) (cp : Nat), i ≤ N ∧ iv = .int .i64 i ∧ ov = .slice A i cp ∧ Hid (wr.ownsRow (w.heap.size + 1) 3 1 (.slice A i cp) i (List.replicate i (.int .i64 (-1)))) ∧ Below (w.heap.size + 1) (w.alloc (.cells #[.int .i64 r, .int .i64 c] 38)) wr) (fun _ iv _ => N - (intOf iv).toNat)
  case atStart => exact ⟨0, none, 0, by omega, rfl, rfl, World.ownsRow_nil _ _ _ _, Below.refl _ _⟩
  case round =>
    obtain ⟨i, A1, cp, hi1, rfl, rfl, HO, hbr⟩ := hrel
    have hzr := hbr.size
    simp at hzr
    have hbw : Below w.heap.size w wr := ((Below.refl _ _).alloc (Nat.le_refl _) _).trans (hbr.mono (by omega))
    have c0' : wr.cell? ⟨blk, offF, none⟩ = some (.string (F 0)) := (hbw.cell (p := ⟨blk, offF, none⟩) l0).trans c0
    have lb' : blk < wr.heap.size := by omega
    by_cases hiN : i < N
    · have HL : Hid (List.replicate (i + 1) (Value.int .i64 (-1)) = List.replicate i (.int .i64 (-1)) ++ [.int .i64 (-1)]) := by show _ = _; rw [List.replicate_succ']
      go_wp2_with (at_builtin; refine wpList_append_own _ rfl _ _ 48 rfl (w.heap.size + 1) 3 ij (.int .i64 0) 1 8 Tryd.underlying48 hij jz0 jz1 jz2 rfl (by decide) _ _ _ rfl (HO.out.alloc _) ⟨wr.heap.size, 0, none⟩ 1 1 [.int .i64 (-1)] rfl rfl (by intro i u hu; match i, hu with | 0, hu => (simp at hu; subst hu; simp [go_sem, Addr.add])) (by intro u hu; simp at hu; subst hu; rfl) (by unfold maxLen; omega) (by omega) (by simp; omega) ?_)
      intro v' w5 hown5 hg5 _
      have hb5 : Below (w.heap.size + 1) (w.alloc (.cells #[.int .i64 r, .int .i64 c] 38)) w5 := (hbr.alloc (by omega) _).grown hg5 (by simp; omega) (fun g hg => (HO.out.lt g hg).1)
      obtain ⟨B2, cp2, rfl⟩ := row_form hown5
      rw [← HL.out] at hown5
      have hown6 := hide hown5
      clear hown5 hg5 HO
      go_wp2_with fail
      go_roundw
      case rel => exact ⟨i + 1, B2, cp2, by omega, by go_num, rfl, hown6, hb5⟩
      case measure => simp [intOf]; omega
    · obtain rfl : i = N := by omega
      obtain ⟨g, rfl⟩ : ∃ g, A1 = some ⟨g, 0, none⟩ := by
        rcases HO.out.2 with ⟨_, h⟩ | ⟨g, _, _, h, _⟩
        · omega
        · injection h with h
          exact ⟨g, h⟩
      have hgb := HO.out.lt g rfl
      have hrow := rep_row i
      have hol : OwnL wr g (g + 1) 3 1 (.slice (some ⟨g, 0, none⟩) i cp) i i (fun _ => .int .i64 (-1)) := by
        have h := HO.out
        have h' : wr.ownsRow (w.heap.size + 1) 3 1 (.slice (some ⟨g, 0, none⟩) i cp) i (rowL (iC (fun _ => -1)) 1 i) := hrow ▸ h
        have h2 := row_at h' (by omega) rfl
        rw [Nat.mul_one] at h2
        exact h2.congr fun o _ => rfl
      obtain ⟨hci, hcm⟩ := hol.cap_le (by omega)
      have HOL := hide hol
      have px0 : wr.cell? ⟨w.heap.size, 0, none⟩ = some (.int .i64 r) := (hbr.cell (p := ⟨w.heap.size, 0, none⟩) (by show w.heap.size < _; omega)).trans (World.cell?_alloc_new _ _ _ _)
      have px1 : wr.cell? ⟨w.heap.size, 1, none⟩ = some (.int .i64 c) := (hbr.cell (p := ⟨w.heap.size, 1, none⟩) (by show w.heap.size < _; omega)).trans (World.cell?_alloc_new _ _ _ _)
      have lp0 : w.heap.size < wr.heap.size := by omega
      have hne0 : ¬ g = w.heap.size := by omega
      clear hol hrow HO
      go_wp2_with fail
      refine (seIndex_p F n (r, c) lo hi _ _ (hv.below (B := w.heap.size) hbw hhi) (by omega) HG.out HOP.out).mono ?_
      rintro e w1 ⟨rfl, hb1⟩
      have hz1 := hb1.size
      have hol1 := HOL.out.keep1 (hb1.block g hgb.2)
      obtain ⟨⟨u0, hu0⟩, hf0, _⟩ := hol1.cell (by omega) (o := ixF F (r, c)) (by omega)
      have hb01 : Below w.heap.size w w1 := hbw.trans (hb1.mono (by omega))
      have HST : Hid (BMk w _ g w1.heap.size i cp 0 1 0 (bs0 F (r, c))) := (BMem.start (F := F) (a := (r, c)) (w0 := w) hol1 hixN (by omega) (by omega) hb01).bmk
      have px0' : w1.cell? ⟨w.heap.size, 0, none⟩ = some (.int .i64 r) := (hb1.cell (p := ⟨w.heap.size, 0, none⟩) lp0).trans px0
      have px1' : w1.cell? ⟨w.heap.size, 1, none⟩ = some (.int .i64 c) := (hb1.cell (p := ⟨w.heap.size, 1, none⟩) lp0).trans px1
      have lg1 : g < w1.heap.size := by omega
      have lp1 : w.heap.size < w1.heap.size := by omega
      unfold maxLen at hcm
      clear px0 px1 hol1 c0' lp0
      go_wp2_with fail
      clear px0' px1' hu0 hf0
      go_loopg [7] i (fun gn qv wr => ∃ (k l f q off cap : Nat) (s : Bs), qv = .slice (some ⟨q, off, none⟩) l cap ∧ Hid (s.m = k + l) ∧ i - k ≤ gn ∧ i ≤ f + k ∧ Hid (BInv F n (r, c) s) ∧ Hid (bfs F n f k s = bsF F n (r, c)) ∧ Hid (BMk w wr g q i cp off cap k s))
      case atStart => exact ⟨0, 1, i, w1.heap.size, 0, 1, bs0 F (r, c), by simp, rfl, by omega, by omega, BInv.start HOP.out, by show _ = _; rw [HN.out]; rfl, show BMk _ _ _ _ _ _ _ _ _ _ from by simpa using HST.out⟩
      case round =>
        clear hbw lb' hzr hbr
        obtain ⟨k, l, f, q, off, cap, s, rfl, hkl, hgk, hfk, HI, HB, HM⟩ := hrel
        have hmN : s.m ≤ i := by rw [HN.out]; exact HI.out.m_le
        have hkl' := hkl.out
        have hcl := HM.out.que.le
        have hcm2 := HM.out.que.mx
        unfold maxLen at hcm2
        by_cases hl0 : 0 < l
        · have hkm : k < s.m := by omega
          obtain ⟨l, rfl⟩ : ∃ l', l = l' + 1 := ⟨l - 1, by omega⟩
          obtain ⟨f, rfl⟩ : ∃ f', f = f' + 1 := ⟨f - 1, by omega⟩
          have HP : Hid (opP F n (s.q k) = true ∧ 0 ≤ s.o (ixF F (s.q k))) := HI.out.hq k hkm
          obtain ⟨o2, ho2⟩ : ∃ o2, o2 = (if cap = 1 then off else off + 2) := ⟨_, rfl⟩
          have MT : Hid (BMk w wr g q i cp o2 (cap - 1) (k + 1) s) := by
            have h := HM.out.tail hkm
            rw [← ho2] at h
            exact h
          have hsl : ∀ W, (Instr.slice 26 (.slice (some ⟨q, off, none⟩) (l + 1) cap) (some (.int .i64 1)) none none).run Tryd.prog W = .ok (.slice (some ⟨q, o2, none⟩) l (cap - 1)) W := fun W => by
            rw [ho2]
            by_cases h1 : cap = 1
            · subst h1
              simp [go_sem, Tryd.underlying26]
              omega
            · simp [go_sem, Tryd.underlying26, h1]
              omega
          obtain ⟨qc0, qc1⟩ := HM.out.cell hkm
          obtain ⟨wo, ewo⟩ : ∃ wo : World, wo = wr := ⟨_, rfl⟩
          subst ewo
          have hwo := HM.out.bel.size
          have lq0 := HM.out.que.lt
          have lg0 := HM.out.gs
          have HCL := hide hkl'
          clear ho2 hcl hkl'
          go_wp2_with fail
          clear qc0 qc1 hsl
          go_loopg [7, 9] 5 (fun gi qv dv wr => ∃ (d l' q' off' cap' : Nat) (s' : Bs), d ≤ 4 ∧ 4 - d < gi ∧ dv = .int .i64 d ∧ qv = .slice (some ⟨q', off', none⟩) l' cap' ∧ Hid (s'.m = k + 1 + l') ∧ Hid (s' = pshN F n (s.q k) d s) ∧ Hid (BMk w wr g q' i cp off' cap' (k + 1) s') ∧ Hid (wr.heap[wo.heap.size]? = some (.cells #[.int .i64 (s.q k).1, .int .i64 (s.q k).2] 38 (0, 0))) ∧ wo.heap.size ≠ g ∧ wo.heap.size ≠ q' ∧ wo.heap.size < wr.heap.size)
          case atStart => exact ⟨0, l, q, o2, cap - 1, s, by omega, by omega, rfl, rfl, by show _ = _; rw [HCL.out]; omega, rfl, MT.out.below ((Below.refl _ _).alloc (Nat.le_refl _) _), heap_alloc_new wo _, by omega, by omega, by simp⟩
          case round =>
            obtain ⟨d, l', q', off', cap', s', hd, hgi, rfl, rfl, HL', HS, HM', HNB, hng, hnq, hil⟩ := hrel
            obtain ⟨a1, a2, a3, a4⟩ := HI.out.pshN HP.out.1 HP.out.2 hd
            rw [← HS.out] at a1 a2 a3 a4
            have HI' := hide a1
            have HO' := hide a2
            have hm'N : s'.m ≤ i := by rw [HN.out]; exact a1.m_le
            have hl' := HL'.out
            clear a1 a2 a3 a4
            by_cases hd4 : d < 4
            · have nc0 : wr.cell? ⟨wo.heap.size, 0, none⟩ = some (.int .i64 (s.q k).1) := (by simp [World.cell?, HNB.out])
              have nc1 : wr.cell? ⟨wo.heap.size, 1, none⟩ = some (.int .i64 (s.q k).2) := (by simp [World.cell?, HNB.out])
              obtain ⟨y, hy⟩ : ∃ y, stp (s.q k) d = y := ⟨_, rfl⟩
              have HY := hide hy
              obtain ⟨b1, b2, b3, b4⟩ := opP_bd HP.out.1
              have lng := hng
              have lgr := HM'.out.gs
              have lqr := HM'.out.que.lt
              have hbr := HM'.out.bel
              have HL2 := hide hl'
              clear hy hl'
              go_wp2_with fail
              refine (seStep_p (s.q k) y d _ HY.out hd4 (by omega) (by omega) (by omega) (by omega)).mono ?_
              rintro e w2 ⟨rfl, hb2⟩
              have hz2 := hb2.size
              have hbw2 : Below w.heap.size w w2 := hbr.trans (hb2.mono hbr.size)
              have hzw2 := hbw2.size
              go_wp2_with fail
              refine (seOpen_any F n y.1 y.2 lo hi _ _ (hv.below (B := w.heap.size) (hbw2.alloc hbw2.size _) hhi) (by simp; omega) HG.out).mono ?_
              rintro e w3 ⟨rfl, hb3⟩
              have hz3 := hb3.size
              simp at hz3
              have ny0 : w3.cell? ⟨w2.heap.size, 0, none⟩ = some (.int .i64 y.1) := (hb3.cell (p := ⟨w2.heap.size, 0, none⟩) (by simp)).trans (World.cell?_alloc_new _ _ _ _)
              have ny1 : w3.cell? ⟨w2.heap.size, 1, none⟩ = some (.int .i64 y.2) := (hb3.cell (p := ⟨w2.heap.size, 1, none⟩) (by simp)).trans (World.cell?_alloc_new _ _ _ _)
              have M3 : Hid (BMk w w3 g q' i cp off' cap' (k + 1) s') := ((HM'.out.below hb2).below ((Below.refl _ _).alloc (Nat.le_refl _) _)).below hb3
              have hb23 : Below w2.heap.size w2 w3 := ((Below.refl _ _).alloc (Nat.le_refl _) _).trans (hb3.mono (by simp))
              have N3 : Hid (w3.heap[wo.heap.size]? = some (.cells #[.int .i64 (s.q k).1, .int .i64 (s.q k).2] 38 (0, 0))) := by
                show _ = _
                rw [hb23.block _ (by omega), hb2.block _ hil]
                exact HNB.out
              have hly : w2.heap.size < w3.heap.size := by omega
              clear nc0 nc1
              cases e1 : opB F n y.1 y.2 with
              | false =>
                have HS' : Hid (s' = pshN F n (s.q k) (d + 1) s) := by
                  show _ = _
                  rw [pshN, ← HS.out, psh, pshB, HY.out, show opP F n y = false from e1]
                  rfl
                go_wp2_with fail
                go_roundg (4 - d)
                case measure => omega
                case rel => exact ⟨d + 1, l', q', off', cap', s', by omega, by omega, by go_num, rfl, HL2.out, HS', M3, N3, hng, hnq, by omega⟩
              | true =>
                have hoy : opP F n y = true := e1
                have hiy : ixF F y < i := by rw [HN.out]; exact ix_lt hoy
                have HOY := hide hoy
                obtain ⟨y1, y2, y3, y4⟩ := opP_bd hoy
                clear hoy
                go_wp2_with fail
                refine (seIndex_p F n y lo hi _ _ (hv.below (B := w.heap.size) M3.out.bel hhi) (by omega) HG.out HOY.out).mono ?_
                rintro e w4 ⟨rfl, hb4⟩
                have hz4 := hb4.size
                have M4 := hide (M3.out.below hb4)
                obtain ⟨oc, of⟩ := M4.out.num hiy
                have lg4 := M4.out.gs
                have N4 : Hid (w4.heap[wo.heap.size]? = some (.cells #[.int .i64 (s.q k).1, .int .i64 (s.q k).2] 38 (0, 0))) := by
                  show _ = _
                  rw [hb4.block _ (by omega)]
                  exact N3.out
                have ny0' : w4.cell? ⟨w2.heap.size, 0, none⟩ = some (.int .i64 y.1) := (hb4.cell (p := ⟨w2.heap.size, 0, none⟩) hly).trans ny0
                have ny1' : w4.cell? ⟨w2.heap.size, 1, none⟩ = some (.int .i64 y.2) := (hb4.cell (p := ⟨w2.heap.size, 1, none⟩) hly).trans ny1
                have nc0 : w4.cell? ⟨wo.heap.size, 0, none⟩ = some (.int .i64 (s.q k).1) := (by simp [World.cell?, N4.out])
                have nc1 : w4.cell? ⟨wo.heap.size, 1, none⟩ = some (.int .i64 (s.q k).2) := (by simp [World.cell?, N4.out])
                clear ny0 ny1
                cases e2 : decide (s'.o (ixF F y) < 0) with
                | false =>
                  have HS' : Hid (s' = pshN F n (s.q k) (d + 1) s) := by
                    show _ = _
                    rw [pshN, ← HS.out, psh, pshB, HY.out, e2]
                    simp
                  go_wp2_with fail
                  go_roundg (4 - d)
                  case measure => omega
                  case rel => exact ⟨d + 1, l', q', off', cap', s', by omega, by omega, by go_num, rfl, HL2.out, HS', M4, N4, hng, hnq, by omega⟩
                | true =>
                  have hip : ixF F (s.q k) < i := by rw [HN.out]; exact ix_lt HP.out.1
                  obtain ⟨pc, _⟩ := M4.out.num hip
                  have hob := HI'.out.hb (ixF F (s.q k))
                  have zo : IntKind.i64.wrap (s'.o (ixF F (s.q k)) + 1) = s'.o (ixF F (s.q k)) + 1 := IntWalk.i64_in _ (by omega)
                  have hpy : ixF F (s.q k) ≠ ixF F y := fun e => by
                    have := HO'.out
                    have h2 := of_decide_eq_true e2
                    rw [e] at this
                    omega
                  have HC : Hid (∀ W, Below w4.heap.size w4.drew W → (W.cell? ⟨w2.heap.size, 0, none⟩ = some (.int .i64 y.1) ∧ W.cell? ⟨w2.heap.size, 1, none⟩ = some (.int .i64 y.2)) ∧ (W.cell? ⟨wo.heap.size, 0, none⟩ = some (.int .i64 (s.q k).1) ∧ W.cell? ⟨wo.heap.size, 1, none⟩ = some (.int .i64 (s.q k).2)) ∧ W.cell? ⟨g, ixF F (s.q k), none⟩ = some (.int .i64 (s'.o (ixF F (s.q k))))) := fun W hW =>
                    ⟨⟨(hW.cell (p := ⟨w2.heap.size, 0, none⟩) (by show w2.heap.size < _; omega)).trans ny0', (hW.cell (p := ⟨w2.heap.size, 1, none⟩) (by show w2.heap.size < _; omega)).trans ny1'⟩, ⟨(hW.cell (p := ⟨wo.heap.size, 0, none⟩) (by show wo.heap.size < _; omega)).trans nc0, (hW.cell (p := ⟨wo.heap.size, 1, none⟩) (by show wo.heap.size < _; omega)).trans nc1⟩, (hW.cell (p := ⟨g, ixF F (s.q k), none⟩) lg4).trans pc⟩
                  have hzd : w4.drew.heap.size = w4.heap.size := rfl
                  go_wp2_with fail
                  have HE2 := hide e2
                  clear oc of pc nc0 nc1 ny0' ny1' e2
                  refine wp_region_mix [(0, true), (1, true), (2, true), (4, true), (5, true), (6, true), (3, false), (7, false), (8, true), (9, true), (10, true), (11, true), (12, false)] (fun W => (W.cell? ⟨w2.heap.size, 0, none⟩ = some (.int .i64 y.1) ∧ W.cell? ⟨w2.heap.size, 1, none⟩ = some (.int .i64 y.2)) ∧ (W.cell? ⟨wo.heap.size, 0, none⟩ = some (.int .i64 (s.q k).1) ∧ W.cell? ⟨wo.heap.size, 1, none⟩ = some (.int .i64 (s.q k).2)) ∧ W.cell? ⟨g, ixF F (s.q k), none⟩ = some (.int .i64 (s'.o (ixF F (s.q k))))) (by kernel_rfl) (by kernel_rfl) (by kernel_rfl) (by kernel_rfl) (HC.out _ (Below.refl _ _)) ?_
                  refine mix_look _ _ rfl rfl (fun w' _ => BigFrame.run_move _ rfl w') ?_
                  go_simp
                  refine mix_look _ _ rfl rfl (fun w' _ => BigFrame.run_move _ rfl w') ?_
                  go_simp
                  refine mix_look _ (.agg #[.int .i64 y.1, .int .i64 y.2]) rfl rfl (fun w' hw' => (by obtain ⟨⟨a0, a1⟩, _⟩ := hw'; go_simp)) ?_
                  go_simp
                  refine mix_look _ _ rfl rfl (fun w' _ => BigFrame.run_move _ rfl w') ?_
                  go_simp
                  refine mix_look _ _ rfl rfl (fun w' _ => BigFrame.run_move _ rfl w') ?_
                  go_simp
                  refine mix_look _ (.agg #[.int .i64 (s.q k).1, .int .i64 (s.q k).2]) rfl rfl (fun w' hw' => (by obtain ⟨_, ⟨a0, a1⟩, _⟩ := hw'; go_simp)) ?_
                  go_simp
                  refine mix_call _ 91 #[.slice (some ⟨blk, offF, none⟩) n capF, .agg #[.int .i64 y.1, .int .i64 y.2]] rfl rfl (by go_simp) ?_
                  refine (seIndex_p F n y lo hi _ _ (hv.below (B := w.heap.size) (Below.drew M4.out.bel) hhi) (by omega) HG.out HOY.out).mono ?_
                  rintro e w5 ⟨rfl, hb5⟩
                  have hz5 := hb5.size
                  refine ⟨_, rfl, HC.out _ hb5, ?_⟩
                  go_simp
                  refine mix_call _ 91 #[.slice (some ⟨blk, offF, none⟩) n capF, .agg #[.int .i64 (s.q k).1, .int .i64 (s.q k).2]] rfl rfl (by go_simp) ?_
                  refine (seIndex_p F n (s.q k) lo hi _ _ (hv.below (B := w.heap.size) ((Below.drew M4.out.bel).trans (hb5.mono M4.out.bel.size)) hhi) (by omega) HG.out HP.out.1).mono ?_
                  rintro e w6 ⟨rfl, hb6⟩
                  have hz6 := hb6.size
                  have hb46 : Below w4.heap.size w4.drew w6 := hb5.trans (hb6.mono hb5.size)
                  refine ⟨_, rfl, HC.out _ hb46, ?_⟩
                  go_simp
                  refine mix_look _ (.pointer (some ⟨g, ixF F (s.q k), none⟩)) rfl rfl (fun w' hw' => (by go_simp)) ?_
                  go_simp
                  refine mix_look _ (.int .i64 (s'.o (ixF F (s.q k)))) rfl rfl (fun w' hw' => (by obtain ⟨_, _, a0⟩ := hw'; go_simp)) ?_
                  go_simp
                  refine mix_look _ (.int .i64 (s'.o (ixF F (s.q k)) + 1)) rfl rfl (fun w' hw' => (by go_simp)) ?_
                  go_simp
                  refine mix_look _ (.pointer (some ⟨g, ixF F y, none⟩)) rfl rfl (fun w' hw' => (by go_simp)) ?_
                  go_simp
                  have M6 := hide (M4.out.below (w' := w6) ((Below.drew (Below.refl w4.heap.size w4)).trans hb46))
                  obtain ⟨oc, of⟩ := M6.out.num hiy
                  obtain ⟨⟨ca0, ca1⟩, ⟨cb0, cb1⟩, cc3⟩ := HC.out _ hb46
                  have hne4 : w2.heap.size ≠ g := by omega
                  have N6 : Hid (w6.heap[wo.heap.size]? = some (.cells #[.int .i64 (s.q k).1, .int .i64 (s.q k).2] 38 (0, 0))) := by
                    show _ = _
                    rw [hb46.block _ (by omega)]
                    exact N4.out
                  obtain ⟨W7, hW7⟩ : ∃ W7, W7 = w6.setCell ⟨g, ixF F y, none⟩ (.int .i64 (s'.o (ixF F (s.q k)) + 1)) := ⟨_, rfl⟩
                  have hk7 : ∀ b, b ≠ g → W7.heap[b]? = w6.heap[b]? := fun b hb => by rw [hW7]; exact Deep.blk_setCell_other _ _ _ _ hb
                  have ny0 : W7.cell? ⟨w2.heap.size, 0, none⟩ = some (.int .i64 y.1) := (World.cell?_of_block (a := ⟨w2.heap.size, 0, none⟩) (hk7 _ hne4)).trans ca0
                  have ny1 : W7.cell? ⟨w2.heap.size, 1, none⟩ = some (.int .i64 y.2) := (World.cell?_of_block (a := ⟨w2.heap.size, 1, none⟩) (hk7 _ hne4)).trans ca1
                  have nc0' : W7.cell? ⟨wo.heap.size, 0, none⟩ = some (.int .i64 (s.q k).1) := (World.cell?_of_block (a := ⟨wo.heap.size, 0, none⟩) (hk7 _ lng)).trans cb0
                  have nc1' : W7.cell? ⟨wo.heap.size, 1, none⟩ = some (.int .i64 (s.q k).2) := (World.cell?_of_block (a := ⟨wo.heap.size, 1, none⟩) (hk7 _ lng)).trans cb1
                  have nc3 : W7.cell? ⟨g, ixF F (s.q k), none⟩ = some (.int .i64 (s'.o (ixF F (s.q k)))) := by rw [hW7]; simp [go_sem, hpy, cc3]
                  have hz7 : Hid (W7.heap.size = w6.heap.size) := by show _ = _; rw [hW7]; simp [World.setCell]
                  have M7 : BMk w W7 g q' i cp off' cap' (k + 1) { s' with o := updI s'.o (ixF F y) (s'.o (ixF F (s.q k)) + 1) } := by rw [hW7]; exact M6.out.set hiy _
                  have N7 : Hid (W7.heap[wo.heap.size]? = some (.cells #[.int .i64 (s.q k).1, .int .i64 (s.q k).2] 38 (0, 0))) := (hk7 _ lng).trans N6.out
                  have HW7 := hide hW7
                  clear hW7
                  refine mix_store _ W7 rfl rfl (by rw [HW7.out]; go_simp) ⟨⟨ny0, ny1⟩, ⟨nc0', nc1'⟩, nc3⟩ ?_
                  go_simp
                  refine wpMix_nil ?_
                  have HS7 : Hid (pshN F n (s.q k) (d + 1) s = ⟨updI s'.o (ixF F y) (s'.o (ixF F (s.q k)) + 1), updP s'.q s'.m y, s'.m + 1⟩) := by
                    show _ = _
                    rw [pshN, ← HS.out, psh, pshB, HY.out, show opP F n y = true from e1, HE2.out]
                    rfl
                  have hLm := HL2.out
                  have M8 : BMk w (W7.alloc (.cells #[.int .i64 y.1, .int .i64 y.2] 38)) g q' i cp off' cap' (k + 1) { s' with o := updI s'.o (ixF F y) (s'.o (ixF F (s.q k)) + 1) } := M7.below ((Below.refl _ _).alloc (Nat.le_refl _) _)
                  have hq8 : Tl (W7.alloc (.cells #[.int .i64 y.1, .int .i64 y.2] 38)) q' 2 off' l' cap' (fun j => iiC (qR s') (qC s') (k + 1 + j)) := by
                    have h := M8.que
                    simp only at h
                    rw [show s'.m - (k + 1) = l' by omega] at h
                    exact h
                  obtain ⟨q2, off2, cap2, W9, hrun, ht9, hg9, hq9⟩ := run_append_tl (P := Tryd.prog) 26 26 38 ii _ 2 16 Tryd.underlying26 hii iz0 iz1 iz2 rfl (by decide) hq8 (c' := fun j => iiC (qR ⟨updI s'.o (ixF F y) (s'.o (ixF F (s.q k)) + 1), updP s'.q s'.m y, s'.m + 1⟩) (qC ⟨updI s'.o (ixF F y) (s'.o (ixF F (s.q k)) + 1), updP s'.q s'.m y, s'.m + 1⟩) (k + 1 + j)) ⟨W7.heap.size, 0, none⟩ 1
                    (fun j u hu => by
                      rw [Addr.add_lit, Nat.zero_add]
                      refine (World.cell?_alloc_new _ _ _ _).trans ?_
                      rw [← hLm] at hu
                      match j, hu with
                      | 0, hu => simpa [List.range, List.range.loop, iiC, qR, updP] using hu
                      | 1, hu => simpa [List.range, List.range.loop, iiC, qC, updP] using hu)
                    (fun j hj => by unfold iiC; split <;> rfl)
                    (fun a j ha hj => by
                      have : ¬ k + 1 + a = s'.m := by omega
                      simp only [iiC, qR, qC, updP, this, if_false])
                    (by unfold maxLen; omega) (by omega)
                  have HM9 : Hid (BMk w W9 g q2 i cp off2 cap2 (k + 1) ⟨updI s'.o (ixF F y) (s'.o (ixF F (s.q k)) + 1), updP s'.q s'.m y, s'.m + 1⟩) := M8.push (by simp only; rw [show s'.m + 1 - (k + 1) = l' + 1 by omega]; exact ht9) hg9 hq9
                  have hz9 := hg9.size
                  have hz76 := hz7.out
                  have N9 : Hid (W9.heap[wo.heap.size]? = some (.cells #[.int .i64 (s.q k).1, .int .i64 (s.q k).2] 38 (0, 0))) := (hg9.block _ (by simp; omega) (fun e => hnq (by injection e))).trans ((Deep.blk_alloc_lt _ _ _ (by omega)).trans N7.out)
                  have hnq2 : wo.heap.size ≠ q2 := by simp at hq9; omega
                  have hil9 : wo.heap.size < W9.heap.size := by simp at hz9; omega
                  have hrun' : (Builtin.append_ #[26, 26] 26 #[.slice (some ⟨q', off', none⟩) l' cap', .slice (some ⟨W7.heap.size, 0, none⟩) 1 1]).run Tryd.prog (W7.alloc (.cells #[.int .i64 y.1, .int .i64 y.2] 38)) = .ok (.slice (some ⟨q2, off2, none⟩) (l' + 1) cap2) W9 := hrun
                  have HRUN := hide hrun'
                  clear hrun hrun' ht9 M7 M8 hk7 hq9 hg9 hq8 hLm oc of ca0 ca1 cb0 cb1 cc3 nc0' nc1' nc3 zo hz76 hz9
                  go_wp2_with (at_builtin; refine Lib.wpList_append_run _ rfl _ _ _ _ rfl _ _ rfl rfl _ _ HRUN.out ?_)
                  go_wp2_with fail
                  go_roundg (4 - d)
                  case measure => omega
                  case rel => exact ⟨d + 1, l' + 1, q2, off2, cap2, _, by omega, by omega, by go_num, rfl, by have := HL2.out; show s'.m + 1 = _; omega, HS7.out.symm, HM9, N9, hng, hnq2, hil9⟩
            · obtain rfl : d = 4 := by omega
              go_wp2_with fail
              go_roundg (i - (k + 1))
              case measure => omega
              case rel => exact ⟨k + 1, l', f, q', off', cap', s', rfl, HL'.out, by omega, by omega, HI'.out, by show _ = _; rw [HS.out, ← bfs_next hkm]; exact HB.out, HM'.out⟩
        · obtain rfl : l = 0 := by omega
          have hkm : ¬ k < s.m := by omega
          have HE : Hid (s = bsF F n (r, c)) := by show _ = _; rw [← HB.out, bfs_done hkm]
          clear hkl'
          go_wp2_with fail
          go_ret
          refine ⟨g, cp, rfl, ?_, HM.out.gl, HM.out.gs, HM.out.bel⟩
          have h := HM.out.out
          rw [HE.out] at h
          exact h

end Go.Proofs.YtpckhpkbdanjoaaDoor
