/-
  Texts of this proof, one behind the other (part 16).
-/
import Derived.Test.YtpckhpkbdanjoaaDoorQ15
import Derived.Maps.OwnOps
import Derived.Maps.Views
import Derived.DeepKeys4
/-
  Walks: the searched cells: the program's and the reference's.-/
namespace Go.Proofs.YtpckhpkbdanjoaaDoor
set_option linter.unusedVariables false
set_option linter.unusedSimpArgs false
open Go.RowKit

/-- A row's block is of its own type. -/
theorem row_apart {w : World} {lo E sz n b : Nat} {v : Value} {xs : List Value} {o : Obj} (h : w.ownsRow lo E sz v n xs) (hb : w.heap[b]? = some o) (ho : ∀ cs k, o ≠ .cells cs E k) : ∀ g, v.ownBlock = some g → g ≠ b := by
  intro g hg e
  subst e
  rcases h.2 with ⟨rfl, _⟩ | ⟨g', cap, cur, rfl, _, hh, _⟩
  · cases hg
  · cases hg
    rw [hb] at hh
    exact ho _ _ (Option.some.inj hh)
theorem row_keep {w w' : World} {lo E sz n : Nat} {v : Value} {xs : List Value} (h : w.ownsRow lo E sz v n xs) (hk : ∀ g, v.ownBlock = some g → w'.heap[g]? = w.heap[g]?) : w'.ownsRow lo E sz v n xs := by
  obtain ⟨hl, h1⟩ := id h
  refine ⟨hl, ?_⟩
  rcases h1 with h1 | ⟨g, cap, cur, rfl, hg, hh, r⟩
  · exact .inl h1
  · exact .inr ⟨g, cap, cur, rfl, hg, by rw [hk g rfl]; exact hh, r⟩
def seOk (F : Nat → ByteArray) (n : Nat) (p q : Nat → Int) (m : Nat) : Bool := flB F n && decide (m ≤ 1000) && allB (fun t => opB F n (p t) (q t)) m
def seP (F : Nat → ByteArray) (n : Nat) (p q : Nat → Int) (m : Nat) : Nat → Bool := nrF F n p q m
def seN (F : Nat → ByteArray) (n : Nat) (p q : Nat → Int) (m : Nat) : Nat := if seOk F n p q m = true then (flt (nrF F n p q m) (n * (F 0).size)).length else 0
def seR (F : Nat → ByteArray) (n : Nat) (p q : Nat → Int) (m : Nat) : Nat → Int := rI (F 0).size (nrF F n p q m) (n * (F 0).size)
def seC (F : Nat → ByteArray) (n : Nat) (p q : Nat → Int) (m : Nat) : Nat → Int := cI (F 0).size (nrF F n p q m) (n * (F 0).size)
theorem se_facts {F : Nat → ByteArray} {n m : Nat} {p q : Nat → Int} (h : seOk F n p q m = true) : flB F n = true ∧ m ≤ 1000 ∧ ∀ t, t < m → opB F n (p t) (q t) = true := by
  simp only [seOk, Bool.and_eq_true, decide_eq_true_eq, allB_iff] at h
  exact ⟨h.1.1, h.1.2, h.2⟩
theorem seN_le {F : Nat → ByteArray} {n m : Nat} {p q : Nat → Int} : seN F n p q m ≤ 1048576 := by
  unfold seN
  split
  · rename_i h
    have h1 := (fl_area (se_facts h).1).2
    have h2 := flt_len (nrF F n p q m) (n * (F 0).size)
    omega
  · omega
set_option maxRecDepth 100000 in
set_option maxHeartbeats 3200000 in
theorem seCells_any (F : Nat → ByteArray) (n : Nat) (f : Nat → Int) (L lo hi lo2 hi2 : Nat) (v u : Value) (w : World) (hv : Sl w lo hi 1 v n (sC F)) (hhi : hi ≤ w.heap.size) (hu : Sl w lo2 hi2 1 u L (iC f)) (hhi2 : hi2 ≤ w.heap.size) (hg : flB F n = true) (hL : L ≤ 1000) (hf : ∀ i, i < L → 0 ≤ f i ∧ f i ≤ 1000) :
    Calls Tryd.prog 54 #[v, u] w fun e w' => ∃ v', e = .returned v' ∧ w'.ownsRow w.heap.size 38 2 v' L (rowL (iiC (fun i => f i / ((F 0).size : Int)) (fun i => f i % ((F 0).size : Int))) 2 L) ∧ Below w.heap.size w w' := by
  obtain ⟨A, cap, rfl, hcap, hA⟩ := hu.open_
  have HG := hide hg
  have HV := hide hv
  have HF : Hid (∀ i, i < L → 0 ≤ f i ∧ f i ≤ 1000) := hf
  obtain ⟨ii, hii, iz0, iz1, iz2⟩ := info_parts infoCell2
  clear hg hv hu hf
  go_enter Tryd.func54, Tryd.ntmps54
  go_wp2_with fail
  go_loopg [5, 10] (L + 1) (fun gn a b wr => ∃ t : Nat, t ≤ L ∧ L - t < gn ∧ b = .int .i64 t ∧ Hid (wr.ownsRow w.heap.size 38 2 a t (rowL (iiC (fun i => f i / ((F 0).size : Int)) (fun i => f i % ((F 0).size : Int))) 2 t)) ∧ Hid (Below w.heap.size w wr))
  case atStart => exact ⟨0, by omega, by omega, rfl, World.ownsRow_nil _ _ _ _, Below.refl _ _⟩
  case round =>
    obtain ⟨t, ht, hgt, rfl, HR, HB⟩ := hrel
    have hz := HB.out.size
    by_cases htL : t < L
    · obtain ⟨blk, off, rfl, h1, h2, h3⟩ := hA (by omega)
      obtain ⟨k, hk⟩ : ∃ k : Nat, f t = k := ⟨(f t).toNat, by have := (HF.out t htL).1; omega⟩
      have hk9 : k ≤ 1000 := by have := (HF.out t htL).2; omega
      have l0 : blk < wr.heap.size := by omega
      have c0 : wr.cell? ⟨blk, off + t, none⟩ = some (.int .i64 k) := by
        refine (HB.out.cell (p := ⟨blk, off + t, none⟩) (by show blk < _; omega)).trans ?_
        have := h3 t 0 htL (by omega)
        simpa [iC, hk] using this
      have HK := hide hk
      clear hA h3 hk
      go_wp2_with fail
      refine (seCell_any F n k lo hi _ _ (HV.out.below (B := w.heap.size) HB.out hhi) (by omega) HG.out hk9).mono ?_
      rintro e w2 ⟨rfl, hb2⟩
      have hz2 := hb2.size
      have hr2 := row_below HR.out hb2 (Nat.le_refl _)
      have HB2 : Hid (Below w.heap.size w w2) := HB.out.trans (hb2.mono hz)
      go_wp2_with (at_builtin; refine wpList_append_own _ rfl _ _ 26 rfl w.heap.size 38 ii (.agg #[.int .i64 0, .int .i64 0]) 2 16 Tryd.underlying26 hii iz0 iz1 iz2 rfl (by decide) _ _ _ rfl (hr2.alloc _) ⟨w2.heap.size, 0, none⟩ 1 1 [.int .i64 ((k : Int) / ((F 0).size : Int)), .int .i64 ((k : Int) % ((F 0).size : Int))] rfl rfl ?_ ?_ ?_ ?_ ?_ ?_)
      · intro i u hu
        match i, hu with
        | 0, hu => simp at hu; subst hu; simp [go_sem, Addr.add]
        | 1, hu => simp at hu; subst hu; simp [go_sem, Addr.add]
      · intro u hu; simp at hu; rcases hu with rfl | rfl <;> rfl
      · unfold maxLen; omega
      · omega
      · simp; omega
      intro v' w3 hown3 hg3 _
      have HB3 : Hid (Below w.heap.size w w3) := (HB2.out.alloc (by omega) _).grown hg3 (by simp; omega) (fun g hg => (hr2.lt g hg).1)
      have HR3 : Hid (w3.ownsRow w.heap.size 38 2 v' (t + 1) (rowL (iiC (fun i => f i / ((F 0).size : Int)) (fun i => f i % ((F 0).size : Int))) 2 (t + 1))) := by
        have e : rowL (iiC (fun i => f i / ((F 0).size : Int)) (fun i => f i % ((F 0).size : Int))) 2 (t + 1) = rowL (iiC (fun i => f i / ((F 0).size : Int)) (fun i => f i % ((F 0).size : Int))) 2 t ++ [.int .i64 ((k : Int) / ((F 0).size : Int)), .int .i64 ((k : Int) % ((F 0).size : Int))] := by
          rw [rowL, ← HK.out]; rfl
        show World.ownsRow _ _ _ _ _ _ _
        rw [e]
        exact hown3
      clear hown3 hg3 hr2
      go_wp2_with fail
      go_roundg (L - t)
      case measure => omega
      case rel => exact ⟨t + 1, by omega, by omega, by go_num, HR3.out, HB3.out⟩
    · obtain rfl : t = L := by omega
      go_wp2_with fail
      go_ret
      exact ⟨_, rfl, HR.out, HB.out⟩
set_option maxRecDepth 100000 in
set_option maxHeartbeats 6400000 in
theorem searchedCells_any (F : Nat → ByteArray) (n : Nat) (p q : Nat → Int) (m lo hi lo2 hi2 : Nat) (v u : Value) (w : World) (hv : Sl w lo hi 1 v n (sC F)) (hhi : hi ≤ w.heap.size) (hu : Sl w lo2 hi2 2 u m (iiC p q)) (hhi2 : hi2 ≤ w.heap.size) (hg : flB F n = true) (hm : m ≤ 1000) (hop : ∀ t, t < m → opB F n (p t) (q t) = true) :
    Calls Tryd.prog 60 #[v, u] w fun e w' => ∃ v', e = .returned v' ∧ w'.ownsRow w.heap.size 38 2 v' (flt (nrF F n p q m) (n * (F 0).size)).length (fltC (F 0).size (nrF F n p q m) (n * (F 0).size)) ∧ Below w.heap.size w w' := by
  obtain ⟨A, cap, rfl, hcap, hA⟩ := id hv.open_
  obtain ⟨A2, cap2, rfl, hcap2, _⟩ := id hu.open_
  obtain ⟨g1, g2, g3, g4, _, g6⟩ := flB_facts hg
  obtain ⟨blk, off, rfl, h1, h2, h3⟩ := hA (by omega)
  have c0 : w.cell? ⟨blk, off, none⟩ = some (.string (F 0)) := by simpa [sC] using h3 0 0 (by omega) (by omega)
  have l0 : blk < w.heap.size := by omega
  obtain ⟨W, hW⟩ : ∃ W, W = (F 0).size := ⟨_, rfl⟩
  have hW12 : W ≤ 12 := by omega
  have HASC : Hid (∀ y, (h : y < (F 0).size) → ((F 0)[y]'h).toNat < 128) := fun y h => by
    have h5 := g6 0 y (by omega) h
    have h6 := byteAt_eq h
    omega
  have HWP : Hid (∀ t, t < m → (0 ≤ p t ∧ p t ≤ 1000) ∧ 0 ≤ q t ∧ q t ≤ 1000) := fun t ht => by
    obtain ⟨b1, b2, _⟩ := opB_iff.1 (hop t ht)
    omega
  obtain ⟨ii, hii, iz0, iz1, iz2⟩ := info_parts infoCell2
  have HG := hide hg
  have HV := hide hv
  have HU := hide hu
  have HC0 := hide c0
  rw [← hW]
  have HW := hide hW
  clear hg hv hu hA h3 hop g6 c0 hW g3 g4
  go_enter Tryd.func60, Tryd.ntmps60
  go_wp2_with fail
  go_loopg [5, 12] (n + 1) (fun gn a b wr => ∃ x : Nat, x ≤ n ∧ n - x < gn ∧ b = .int .i64 x ∧ Hid (wr.ownsRow w.heap.size 38 2 a (flt (nrF F n p q m) (x * W)).length (fltC W (nrF F n p q m) (x * W))) ∧ Hid (Below w.heap.size w wr))
  case atStart => exact ⟨0, by omega, by omega, rfl, (by rw [Nat.zero_mul]; exact World.ownsRow_nil _ _ _ _), Below.refl _ _⟩
  case round =>
    obtain ⟨x, hx, hgx, rfl, HR, HB⟩ := hrel
    have hz := HB.out.size
    by_cases hxn : x < n
    · have c0 : wr.cell? ⟨blk, off, none⟩ = some (.string (F 0)) := (HB.out.cell (p := ⟨blk, off, none⟩) l0).trans HC0.out
      have lb : blk < wr.heap.size := by omega
      obtain ⟨wo, ewo⟩ : ∃ wo : World, wo = wr := ⟨_, rfl⟩
      subst ewo
      go_wp2_with fail
      clear c0
      go_loopg [5] (W + 1) (fun gn a wr' => ∃ y : Nat, y ≤ W ∧ W - y < gn ∧ Hid (wr'.ownsRow w.heap.size 38 2 a (flt (nrF F n p q m) (x * W + y)).length (fltC W (nrF F n p q m) (x * W + y))) ∧ Hid (Below w.heap.size w wr') ∧ Hid (wr'.heap[wo.heap.size]? = some (.cells #[.int .i64 x] 3 (0, 0))) ∧ Hid (wr'.heap[wo.heap.size + 1]? = some (.stringIter (F 0) y)))
      case atStart =>
        have ba : Below wo.heap.size wo ((wo.alloc (.cells #[.int .i64 x] 3)).iter (F 0) 0) := ((Below.refl _ _).alloc (Nat.le_refl _) _).alloc (by simp) _
        exact ⟨0, by omega, by omega, row_below HR.out ba (Nat.le_refl _), HB.out.trans (ba.mono hz), (Deep.blk_alloc_lt _ _ _ (by simp)).trans (heap_alloc_new _ _), by show _ = _; simpa using World.iter_heap (wo.alloc (.cells #[.int .i64 x] 3)) (F 0) 0⟩
      case round =>
        obtain ⟨y, hy, hgy, HR2, HB2, HRB, HIT⟩ := hrel
        have hz2 := HB2.out.size
        have lit : wo.heap.size + 1 < wr.heap.size := (Array.getElem?_eq_some_iff.1 HIT.out).1
        by_cases hyW : y < W
        · have hys : y < (F 0).size := by have := HW.out; omega
          have hnx := fun ty => run_next_at (P := Tryd.prog) wr (wo.heap.size + 1) (F 0) y ty HIT.out hys (HASC.out y hys)
          obtain ⟨W1, hW1⟩ : ∃ W1, W1 = setIter wr (wo.heap.size + 1) (F 0) (y + 1) := ⟨_, rfl⟩
          rw [← hW1] at hnx
          have HIT1 : Hid (W1.heap[wo.heap.size + 1]? = some (.stringIter (F 0) (y + 1))) := by show _ = _; rw [hW1]; exact setIter_at lit _ _
          have HRB1 : Hid (W1.heap[wo.heap.size]? = some (.cells #[.int .i64 x] 3 (0, 0))) := by show _ = _; rw [hW1, setIter_other (by omega)]; exact HRB.out
          have HB1 : Hid (Below w.heap.size w W1) := by show Below _ _ _; rw [hW1]; exact setIter_below HB2.out (by omega) _ _
          have HR1 : Hid (W1.ownsRow w.heap.size 38 2 u5 (flt (nrF F n p q m) (x * W + y)).length (fltC W (nrF F n p q m) (x * W + y))) := by
            show World.ownsRow _ _ _ _ _ _ _
            rw [hW1]
            exact row_keep HR2.out fun g hg => setIter_other (row_apart HR2.out HIT.out (fun _ _ h => by cases h) g hg) _ _
          have lW1 : W1.heap.size = wr.heap.size := by rw [hW1, setIter_size]
          clear hW1
          have r0 : W1.cell? ⟨wo.heap.size, 0, none⟩ = some (.int .i64 x) := by simp [World.cell?, HRB1.out]
          have lr1 : wo.heap.size < W1.heap.size := by omega
          have lr2 : wo.heap.size + 1 < W1.heap.size := by omega
          have LW1 := hide lW1
          clear lW1 lit
          go_wp2_with fail
          clear r0 lr1 hnx
          obtain ⟨cb, hcb⟩ : ∃ cb, cb = W1.heap.size := ⟨_, rfl⟩
          obtain ⟨W2, hW2⟩ : ∃ W2, W2 = (W1.alloc (.cells #[.int .i64 y] 3)).alloc (.cells #[.int .i64 x, .int .i64 y] 38) := ⟨_, rfl⟩
          have ba : Below W1.heap.size W1 W2 := by rw [hW2]; exact ((Below.refl _ _).alloc (Nat.le_refl _) _).alloc (by simp) _
          have HCB2 : Hid (W2.heap[cb]? = some (.cells #[.int .i64 y] 3 (0, 0))) := by show _ = _; rw [hW2, hcb]; exact (Deep.blk_alloc_lt _ _ _ (by simp)).trans (heap_alloc_new _ _)
          have HBX2 : Hid (Bx2 W2 (cb + 1) x y) := by show Bx2 _ _ _ _; rw [hW2, hcb]; simpa using Bx2.new (W1.alloc (.cells #[.int .i64 y] 3)) (x : Int) (y : Int)
          rw [← hW2, ← hcb]
          have hz1 := HB1.out.size
          have hlt12 := ba.size
          have HIT2 : Hid (W2.heap[wo.heap.size + 1]? = some (.stringIter (F 0) (y + 1))) := (ba.block _ lr2).trans HIT1.out
          have HRB2 : Hid (W2.heap[wo.heap.size]? = some (.cells #[.int .i64 x] 3 (0, 0))) := (ba.block _ (by omega)).trans HRB1.out
          have HB2' : Hid (Below w.heap.size w W2) := HB1.out.trans (ba.mono hz1)
          have HR2' := hide (row_below HR1.out ba (Nat.le_refl _))
          clear hW2 ba hcb HIT1 HRB1 HB1 HR1
          refine (isOpen_any F n x y lo hi _ _ (HV.out.below (B := w.heap.size) HB2'.out hhi) (by have := HB2'.out.size; omega) HG.out).mono ?_
          rintro e w3 ⟨rfl, hb3⟩
          have lb2 := HBX2.out.lt
          have HCB3 : Hid (w3.heap[cb]? = some (.cells #[.int .i64 y] 3 (0, 0))) := (hb3.block _ (by omega)).trans HCB2.out
          have HBX3 : Hid (Bx2 w3 (cb + 1) x y) := HBX2.out.below hb3 lb2
          have HIT3 : Hid (w3.heap[wo.heap.size + 1]? = some (.stringIter (F 0) (y + 1))) := (hb3.block _ (by omega)).trans HIT2.out
          have HRB3 : Hid (w3.heap[wo.heap.size]? = some (.cells #[.int .i64 x] 3 (0, 0))) := (hb3.block _ (by omega)).trans HRB2.out
          have HB3 : Hid (Below w.heap.size w w3) := HB2'.out.trans (hb3.mono HB2'.out.size)
          have HR3 := hide (row_below HR2'.out hb3 (Nat.le_refl _))
          clear HCB2 HBX2 HIT2 HRB2 HB2' HR2' hb3 lb2 hlt12 hz1
          have HNS : Hid (nrF F n p q m (x * W + y) = seT F n p q m x y) := by show _ = _; rw [HW.out]; exact nr_se hys
          cases eo : opB F n x y with
          | false =>
            have HP : Hid (nrF F n p q m (x * W + y) = false) := by show _ = _; rw [HNS.out, seT, eo]; rfl
            go_wp2_with fail
            go_roundg (W - y)
            case measure => omega
            case rel => exact ⟨y + 1, by omega, by omega, (by show World.ownsRow _ _ _ _ _ _ _; rw [← Nat.add_assoc, flt_no HP.out, fltC_no HP.out]; exact HR3.out), HB3.out, HRB3.out, HIT3.out⟩
          | true =>
            have HP : Hid (nrF F n p q m (x * W + y) = anyN x y p q m) := by show _ = _; rw [HNS.out, seT, eo]; rfl
            clear eo
            have lcb := HBX3.out.lt
            have lrb : wo.heap.size < w3.heap.size := (Array.getElem?_eq_some_iff.1 HRB3.out).1
            go_wp2_with fail
            refine (ContainsFuncN_any x y wo.heap.size cb p q m lo2 hi2 _ _ (HU.out.below (B := w.heap.size) HB3.out hhi2) (by have := HB3.out.size; omega) (by omega) (by simp [World.cell?, HRB3.out]) (by simp [World.cell?, HCB3.out]) lrb (by omega) (by omega) (by omega) (by omega) (by omega) HWP.out).mono ?_
            rintro e w4 ⟨rfl, hb4⟩
            have HBX4 : Hid (Bx2 w4 (cb + 1) x y) := HBX3.out.below hb4 lcb
            have HIT4 : Hid (w4.heap[wo.heap.size + 1]? = some (.stringIter (F 0) (y + 1))) := (hb4.block _ (Array.getElem?_eq_some_iff.1 HIT3.out).1).trans HIT3.out
            have HRB4 : Hid (w4.heap[wo.heap.size]? = some (.cells #[.int .i64 x] 3 (0, 0))) := (hb4.block _ lrb).trans HRB3.out
            have HB4 : Hid (Below w.heap.size w w4) := HB3.out.trans (hb4.mono HB3.out.size)
            have HR4 := hide (row_below HR3.out hb4 (Nat.le_refl _))
            obtain ⟨tst, htst⟩ : ∃ b, anyN x y p q m = b := ⟨_, rfl⟩
            rw [htst] at HP
            rw [show decide (0 ≤ fstI (fun t => nearB x y (p t) (q t)) m) = tst from htst]
            clear htst HCB3 HBX3 HIT3 HRB3 HB3 HR3 hb4
            cases tst with
            | false =>
              go_wp2_with fail
              go_roundg (W - y)
              case measure => omega
              case rel => exact ⟨y + 1, by omega, by omega, (by show World.ownsRow _ _ _ _ _ _ _; rw [← Nat.add_assoc, flt_no HP.out, fltC_no HP.out]; exact HR4.out), HB4.out, HRB4.out, HIT4.out⟩
            | true =>
              obtain ⟨q0, q1, qf, ql⟩ := HBX4.out
              have hz4 := HB4.out.size
              have hln := flt_len (nrF F n p q m) (x * W + y)
              have hxW : x * W ≤ 144 := Nat.le_trans (Nat.mul_le_mul (show x ≤ 12 by omega) hW12) (by omega)
              have lit4 : wo.heap.size + 1 < w4.heap.size := (Array.getElem?_eq_some_iff.1 HIT4.out).1
              go_wp2_with (at_builtin; refine wpList_append_own _ rfl _ _ 26 rfl w.heap.size 38 ii (.agg #[.int .i64 0, .int .i64 0]) 2 16 Tryd.underlying26 hii iz0 iz1 iz2 rfl (by decide) _ _ _ rfl (HR4.out.alloc _) ⟨w4.heap.size, 0, none⟩ 1 1 [.int .i64 x, .int .i64 y] rfl rfl ?_ ?_ ?_ ?_ ?_ ?_)
              · intro i u hu
                match i, hu with
                | 0, hu => simp at hu; subst hu; simp [go_sem, Addr.add]
                | 1, hu => simp at hu; subst hu; simp [go_sem, Addr.add]
              · intro u hu; simp at hu; rcases hu with rfl | rfl <;> rfl
              · unfold maxLen; omega
              · omega
              · simp; omega
              intro v' w5 hown5 hg5 _
              have HB5 : Hid (Below w.heap.size w w5) := (HB4.out.alloc (by omega) _).grown hg5 (by simp; omega) (fun g hg => (HR4.out.lt g hg).1)
              have HIT5 : Hid (w5.heap[wo.heap.size + 1]? = some (.stringIter (F 0) (y + 1))) := (hg5.block _ (by simp; omega) (fun e => row_apart HR4.out HIT4.out (fun _ _ h => by cases h) _ e.symm rfl)).trans ((Deep.blk_alloc_lt _ _ _ lit4).trans HIT4.out)
              have HRB5 : Hid (w5.heap[wo.heap.size]? = some (.cells #[.int .i64 x] 3 (0, 0))) := (hg5.block _ (by simp; omega) (fun e => row_apart HR4.out HRB4.out (fun _ _ h => by cases h) _ e.symm rfl)).trans ((Deep.blk_alloc_lt _ _ _ (by omega)).trans HRB4.out)
              have HR5 : Hid (w5.ownsRow w.heap.size 38 2 v' (flt (nrF F n p q m) (x * W + (y + 1))).length (fltC W (nrF F n p q m) (x * W + (y + 1)))) := by
                show World.ownsRow _ _ _ _ _ _ _
                rw [← Nat.add_assoc, fltC_at hyW HP.out, flt_yes HP.out, List.length_append]
                exact hown5
              clear hown5 hg5 q0 q1 qf ql
              go_wp2_with fail
              go_roundg (W - y)
              case measure => omega
              case rel => exact ⟨y + 1, by omega, by omega, HR5.out, HB5.out, HRB5.out, HIT5.out⟩
        · have e : y = W := by omega
          have hnx := fun ty => run_next_done (P := Tryd.prog) wr (wo.heap.size + 1) (F 0) y ty HIT.out (by have := HW.out; omega)
          have HR3 : Hid (wr.ownsRow w.heap.size 38 2 u5 (flt (nrF F n p q m) ((x + 1) * W)).length (fltC W (nrF F n p q m) ((x + 1) * W))) := by
            show World.ownsRow _ _ _ _ _ _ _
            rw [Nat.succ_mul]
            rw [e] at HR2
            exact HR2.out
          clear e
          go_wp2_with fail
          go_roundg (n - x)
          case measure => omega
          case rel => exact ⟨x + 1, by omega, by omega, by go_num, HR3.out, HB2.out⟩
    · obtain rfl : x = n := by omega
      go_wp2_with fail
      go_ret
      exact ⟨_, rfl, HR.out, HB.out⟩

end Go.Proofs.YtpckhpkbdanjoaaDoor

/-
  Memory while a way with one hand at a wall is gone: the place, the turns, the way so far.-/
namespace Go.Proofs.YtpckhpkbdanjoaaDoor
set_option linter.unusedVariables false
set_option linter.unusedSimpArgs false
open Go.RowKit

theorem OwnL.heap_ {w : World} {g E sz n cap K : Nat} {cc : Nat → Value} (h : OwnL w g (g + 1) E sz (.slice (some ⟨g, 0, none⟩) n cap) n K cc) (hn : 0 < n) : ∃ cs, w.heap[g]? = some (.cells cs E (0, 0)) := by
  rcases h with ⟨h0, _⟩ | ⟨g', cap', xs, he, h1, h2, h3, ⟨_, h4⟩, _⟩
  · omega
  injection he with e1 _ _
  injection e1 with e1
  injection e1 with e1
  subst e1
  rcases h4 with ⟨h4, _⟩ | ⟨x, _, cur, he, _, hh, _⟩
  · cases h4
  injection he with e1 _ _
  injection e1 with e1
  injection e1 with e1
  subst e1
  exact ⟨cur, hh⟩
structure HMem (w0 w : World) (ab tb : Nat) (b : Bool) (p : Int × Int) (t : Nat) (v : Value) (R C : Nat → Int) : Prop where
  box : Bx2 w ab p.1 p.2
  tr : w.heap[tb]? = some (.cells #[.int .i64 (trn b 0 : Nat), .int .i64 (trn b 1 : Nat), .int .i64 (trn b 2 : Nat), .int .i64 (trn b 3 : Nat)] 3 (0, 0))
  row : w.ownsRow (ab + 1) 38 2 v (t + 1) (rowL (iiC R C) 2 (t + 1))
  al : w0.heap.size ≤ ab
  tl : ab < tb
  bel : Below w0.heap.size w0 w
section
variable {w0 w w' : World} {ab tb t : Nat} {b : Bool} {p : Int × Int} {v : Value} {R C : Nat → Int}
theorem HMem.tlt (h : HMem w0 w ab tb b p t v R C) : tb < w.heap.size := (Array.getElem?_eq_some_iff.1 h.tr).1
theorem HMem.below (h : HMem w0 w ab tb b p t v R C) (hb : Below w.heap.size w w') : HMem w0 w' ab tb b p t v R C :=
  ⟨h.box.below hb h.box.lt, (hb.block _ h.tlt).trans h.tr, row_below h.row hb (Nat.le_refl _), h.al, h.tl, h.bel.trans (hb.mono h.bel.size)⟩
theorem HMem.keep (h : HMem w0 w ab tb b p t v R C) (hk : ∀ k, k < w.heap.size → (k = ab ∨ k = tb ∨ v.ownBlock = some k) → w'.heap[k]? = w.heap[k]?) (hs : w.heap.size ≤ w'.heap.size) (hb : Below w0.heap.size w0 w') : HMem w0 w' ab tb b p t v R C :=
  ⟨h.box.keep (hk _ h.box.lt (.inl rfl)) (Nat.lt_of_lt_of_le h.box.lt hs), (hk _ h.tlt (.inr (.inl rfl))).trans h.tr, row_keep h.row fun g hg => hk g (h.row.lt g hg).2 (.inr (.inr hg)), h.al, h.tl, hb⟩
theorem HMem.turn (h : HMem w0 w ab tb b p t v R C) {j : Nat} (hj : j < 4) : w.cell? ⟨tb, j, none⟩ = some (.int .i64 (trn b j : Nat)) := by
  have h4 : j = 0 ∨ j = 1 ∨ j = 2 ∨ j = 3 := by omega
  rcases h4 with rfl | rfl | rfl | rfl <;> simp [World.cell?, h.tr]
theorem HMem.apart (h : HMem w0 w ab tb b p t v R C) {k : Nat} {o : Obj} (hb : w.heap[k]? = some o) (ho : ∀ cs m, o ≠ .cells cs 38 m) (ht : ∀ cs m, o ≠ .cells cs 3 m) (hab : k ≠ ab) : ∀ q, q < w.heap.size → (q = ab ∨ q = tb ∨ v.ownBlock = some q) → q ≠ k := by
  intro q _ hq e
  subst e
  rcases hq with h1 | h1 | h1
  · exact hab h1
  · rw [h1, h.tr] at hb
    exact ht _ _ (Option.some.inj hb).symm
  · exact row_apart h.row hb ho _ h1 rfl
/-- The place is moved. -/
theorem HMem.move (h : HMem w0 w ab tb b p t v R C) (x y : Int) : HMem w0 ((w.setCell ⟨ab, 0, none⟩ (.int .i64 x)).setCell ⟨ab, 1, none⟩ (.int .i64 y)) ab tb b (x, y) t v R C := by
  have hne : ∀ k, k ≠ ab → ((w.setCell ⟨ab, 0, none⟩ (.int .i64 x)).setCell ⟨ab, 1, none⟩ (.int .i64 y)).heap[k]? = w.heap[k]? := fun k hk => (Deep.blk_setCell_other _ _ _ _ hk).trans (Deep.blk_setCell_other _ _ _ _ hk)
  exact ⟨h.box.set x y, (hne _ (by have := h.tl; omega)).trans h.tr, row_keep h.row fun g hg => hne g (by have := (h.row.lt g hg).1; omega), h.al, h.tl, (h.bel.setCell h.al _).setCell h.al _⟩
/-- The way grows. -/
theorem HMem.more {w2 : World} (h : HMem w0 w ab tb b p t v R C) (o : Obj) {v' : Value} (hr : w2.ownsRow (ab + 1) 38 2 v' (t + 1 + 1) (rowL (iiC R C) 2 (t + 1 + 1))) (hg : (w.alloc o).grownBy w2 v.ownBlock) : HMem w0 w2 ab tb b p (t + 1) v' R C := by
  have hs : w.heap.size ≤ (w.alloc o).heap.size := by simp
  have hk : ∀ k, k < w.heap.size → v.ownBlock ≠ some k → w2.heap[k]? = w.heap[k]? := fun k h1 h2 => (hg.block k (Nat.lt_of_lt_of_le h1 hs) (fun e => h2 e.symm)).trans (Deep.blk_alloc_lt _ _ _ h1)
  refine ⟨h.box.keep (hk _ h.box.lt fun e => by have := (h.row.lt _ e).1; omega) (Nat.lt_of_lt_of_le h.box.lt (Nat.le_trans hs hg.size)), (hk _ h.tlt fun e => row_apart h.row h.tr (fun _ _ he => by cases he) _ e rfl).trans h.tr, hr, h.al, h.tl, ?_⟩
  exact (h.bel.alloc h.bel.size o).grown hg (Nat.le_trans h.bel.size hs) fun k hk => by have := (h.row.lt _ hk).1; have := h.al; omega
end
theorem bool_row (z : Value) : ∀ n, List.replicate n z = rowL (fun _ _ => z) 1 n
  | 0 => rfl
  | n + 1 => by
    rw [List.replicate_succ', bool_row z n, rowL]
    rfl
/-- The direction's number. -/
theorem hdI_rem (b : Bool) (l j : Nat) (hl : l < 4) (hj : j < 4) : IntKind.i64.wrap ((l : Int) + (trn b j : Int)) = (l : Int) + (trn b j : Int) ∧ ((l : Int) + (trn b j : Int)).tmod 4 = (hdI b l j : Int) := by
  have h := trn_lt b hj
  refine ⟨IntWalk.i64_in _ (by omega), ?_⟩
  rw [Int.tmod_eq_emod_of_nonneg (by omega), hdI]
  omega
theorem wf_small {x : Int} (h : -1000 ≤ x ∧ x ≤ 1000) : (Lit.int .i64 x).wf = true := WalkArith.wf_i64 (by omega)
def hwR (F : Nat → ByteArray) (n : Nat) (b : Bool) (a : Int × Int) (i : Nat) : Int := (hwP F n b a i).1
def hwC (F : Nat → ByteArray) (n : Nat) (b : Bool) (a : Int × Int) (i : Nat) : Int := (hwP F n b a i).2
/-- What is known of the steps made before, at a step. -/
def hwQ (F : Nat → ByteArray) (n : Nat) (b : Bool) (a : Int × Int) (t : Nat) (Q : Int → Int → Int → Bool) : Prop := ∀ (p : Int × Int) (d : Nat), opP F n p = true → d < 4 → Q p.1 p.2 d = hwD F n b a t (4 * ixF F p + d)
theorem hwQ_zero {F : Nat → ByteArray} {n : Nat} {b : Bool} {a : Int × Int} : hwQ F n b a 0 (fun _ _ _ => false) := fun _ _ _ _ => rfl
theorem hwQ_next {F : Nat → ByteArray} {n : Nat} {b : Bool} {a : Int × Int} {t d : Nat} {Q : Int → Int → Int → Bool} (h : hwQ F n b a t Q) (hp : opP F n (hwP F n b a t) = true) (hd : hwJ F n b a t = (d : Int)) (hd4 : d < 4) :
    hwQ F n b a (t + 1) (fun x y c => Q x y c || decide (x = (hwP F n b a t).1 ∧ y = (hwP F n b a t).2 ∧ c = (d : Int))) := by
  intro p e hp' he
  have hc : hwCd F n b a t = 4 * ixF F (hwP F n b a t) + d := by rw [hwCd, hd]; rfl
  show (Q p.1 p.2 (e : Int) || decide (p.1 = (hwP F n b a t).1 ∧ p.2 = (hwP F n b a t).2 ∧ (e : Int) = (d : Int))) = _
  rw [hwD, orP, ← h p e hp' he, hc]
  congr 1
  apply decide_eq_decide.2
  constructor
  · rintro ⟨h1, h2, h3⟩
    have : p = hwP F n b a t := Prod.ext h1 h2
    rw [this]
    omega
  · intro h1
    have h2 : ixF F p = ixF F (hwP F n b a t) := by omega
    have := ix_inj hp' hp h2
    rw [this]
    exact ⟨rfl, rfl, by omega⟩

end Go.Proofs.YtpckhpkbdanjoaaDoor

/-
  A map of the call's own whose keys are steps (a cell and a direction) and whose elements are Booleans.-/
namespace Go.Proofs.YtpckhpkbdanjoaaDoor
set_option linter.unusedVariables false
set_option linter.unusedSimpArgs false
open Go.RowKit Go.Maps

theorem lawStep : Keyed Tryd.prog 111 :=
  Keyed.of_law (deep_law_laid (by kernel_rfl) (m := 4) (by omega) (of_decide_eq_true (by kernel_rfl)) (by kernel_rfl) (by rw [Tryd.underlying111]))
abbrev stepV (x y d : Int) : Value := .agg #[.int .i64 x, .int .i64 y, .int .i64 d]
theorem lits_int {P : Program} {t : TypeId} (h : P.underlying t = some (.int .i64)) (n : Nat) (x : Int) (hx : (Lit.int .i64 x).wf = true) : P.keyLits (n + 1) t [.int .i64 x] = some [.int .i64 x] := by
  simp [Program.keyLits, h, hx]
theorem keyStep (x y d : Int) (hx : (Lit.int .i64 x).wf = true) (hy : (Lit.int .i64 y).wf = true) (hd : (Lit.int .i64 d).wf = true) : ∃ l, keyOf Tryd.prog 111 (stepV x y d) = some l := by
  have h2 : 3 ≤ Tryd.prog.types.size := of_decide_eq_true (by kernel_rfl)
  obtain ⟨m, hm⟩ : ∃ m, Tryd.prog.types.size = m + 3 := ⟨_, (Nat.sub_add_cancel h2).symm⟩
  have hk : Tryd.prog.keyType 111 = true := by kernel_rfl
  have hc : Tryd.prog.cellsOf 111 = 3 := by kernel_rfl
  have hc2 : Tryd.prog.cellsOf 38 = 2 := by kernel_rfl
  have hc1 : Tryd.prog.cellsOf 3 = 1 := by kernel_rfl
  have hf : (stepV x y d).formed Tryd.prog 111 = true := by simp [stepV, Value.formed, Tryd.underlying111, hc]
  have e0 : Tryd.prog.keyLits (m + 1 + 1 + 1) 38 [.int .i64 x, .int .i64 y] = some [.int .i64 x, .int .i64 y] := by
    unfold Program.keyLits
    simp [Tryd.underlying38, hc2, hc1, lits_int Tryd.underlying3, hx, hy]
  have e1 : Tryd.prog.keyLits (m + 1 + 1 + 1 + 1) 111 [.int .i64 x, .int .i64 y, .int .i64 d] = some [.int .i64 x, .int .i64 y, .int .i64 d] := by
    unfold Program.keyLits
    simp [Tryd.underlying111, hc, hc2, hc1, lits_int Tryd.underlying3, hd, e0]
  refine ⟨.string (keyBytes [.int .i64 x, .int .i64 y, .int .i64 d]), ?_⟩
  unfold keyOf
  rw [hm]
  simp only [Tryd.underlying111, hk, hf, Bool.and_self, if_true]
  have e2 : (stepV x y d).cells.toList = [.int .i64 x, .int .i64 y, .int .i64 d] := rfl
  rw [e2, show m + 3 + 1 = m + 1 + 1 + 1 + 1 from rfl, e1]
  rfl
/-- The map in block mb says Q of steps; at most n entries. -/
def StepMap (w : World) (mb n : Nat) (Q : Int → Int → Int → Bool) : Prop := ∃ D : DataW Unit, w.ownsMap Tryd.prog 111 (plainElem Tryd.prog 4) mb n D ∧ ∀ x y d l, keyOf Tryd.prog 111 (stepV x y d) = some l → D.atKey l (.lit (.bool false)) = .lit (.bool (Q x y d))
section
variable {w w' : World} {mb n : Nat} {Q : Int → Int → Int → Bool}
theorem isMap_of {P : Program} {k : TypeId} {R : Value → Option (DataW Unit × List MemPlace)} {b : Nat} {D : DataW Unit} (h : w.ownsMap P k R b n D) : IsMap D := by
  obtain ⟨es, clock, _, _, _, hD⟩ := h
  exact ⟨_, hD⟩
theorem StepMap.made (w : World) : StepMap (w.alloc (.map #[] 0)) w.heap.size 0 (fun _ _ _ => false) := ⟨.map [], World.ownsMap_made _ _ _ _, fun _ _ _ _ _ => by simp [DataW.atKey]⟩
theorem StepMap.lt (h : StepMap w mb n Q) : mb < w.heap.size := by
  obtain ⟨D, h1, _⟩ := h
  exact h1.lt
theorem StepMap.keep (h : StepMap w mb n Q) (hk : w'.heap[mb]? = w.heap[mb]?) : StepMap w' mb n Q := by
  obtain ⟨D, ⟨es, clock, hb, F, hs, hD⟩, h2⟩ := h
  exact ⟨D, ⟨es, clock, hk.trans hb, F, hs, hD⟩, h2⟩
theorem StepMap.isMap (h : StepMap w mb n Q) : ∃ es clock, w.heap[mb]? = some (.map es clock) := by
  obtain ⟨D, ⟨es, clock, hb, F, hs, hD⟩, h2⟩ := h
  exact ⟨es, clock, hb⟩
theorem zeroBool (w : World) : (zeroValue 4).run Tryd.prog w = .ok (.bool false) w := by kernel_rfl
theorem plainElem_bool_inv {P : Program} {e : TypeId} {H : Type} (he : P.underlying e = some .bool) {v : Value} {z : DataW H × List MemPlace} (h : plainElem P e v = some z) : ∃ b, v = .bool b ∧ z = (.lit (.bool b), []) := by
  unfold plainElem at h
  rw [he] at h
  cases v <;> simp at h
  subst h
  exact ⟨_, rfl, rfl⟩
theorem StepMap.look (h : StepMap w mb n Q) (x y d : Int) (hx : (Lit.int .i64 x).wf = true) (hy : (Lit.int .i64 y).wf = true) (hd : (Lit.int .i64 d).wf = true) :
    (Instr.lookup 109 (.map (some mb)) (stepV x y d) false).run Tryd.prog w = .ok (.bool (Q x y d)) w := by
  obtain ⟨D, h1, h2⟩ := h
  obtain ⟨l, hl⟩ := keyStep x y d hx hy hd
  obtain ⟨v, ps, hrun, hv⟩ := h1.lookup lawStep Tryd.underlying109 (zeroBool w) (plainElem_bool Tryd.underlying4 false) hl
  obtain ⟨b, rfl, hb⟩ := plainElem_bool_inv Tryd.underlying4 hv
  rw [hrun]
  have h3 := h2 x y d l hl
  simp only [Prod.mk.injEq] at hb
  rw [hb.1] at h3
  have e : b = Q x y d := by
    have h4 := congrArg (fun z : DataW Unit => match z with | .lit (.bool c) => c | _ => false) h3
    exact h4
  rw [e]
theorem StepMap.store (h : StepMap w mb n Q) (x y d : Int) (hx : (Lit.int .i64 x).wf = true) (hy : (Lit.int .i64 y).wf = true) (hd : (Lit.int .i64 d).wf = true) (hn : n < maxLen) :
    ∃ w', (Instr.mapUpdate 109 (.map (some mb)) (stepV x y d) (.bool true)).run Tryd.prog w = .ok () w' ∧ StepMap w' mb (n + 1) (fun a b c => Q a b c || decide (a = x ∧ b = y ∧ c = d)) ∧ w.grownBy w' (some mb) := by
  obtain ⟨D, h1, h2⟩ := h
  obtain ⟨l, hl⟩ := keyStep x y d hx hy hd
  obtain ⟨w', hrun, hown, hg⟩ := h1.update lawStep Tryd.underlying109 hn hl (plainElem_bool Tryd.underlying4 true)
  refine ⟨w', hrun, ⟨_, hown, fun a b c k hk => ?_⟩, hg⟩
  by_cases e : k = l
  · subst e
    have hv := lawStep.inj hk hl
    simp [stepV] at hv
    rw [atKey_put_same (isMap_of h1) (lawStep.key hl)]
    simp [hv]
  · rw [atKey_put_other e, h2 a b c k hk]
    have hne : ¬ (a = x ∧ b = y ∧ c = d) := fun h => e (by
      obtain ⟨rfl, rfl, rfl⟩ := h
      rw [hk] at hl
      exact Option.some.inj hl)
    simp [hne]
end

end Go.Proofs.YtpckhpkbdanjoaaDoor
