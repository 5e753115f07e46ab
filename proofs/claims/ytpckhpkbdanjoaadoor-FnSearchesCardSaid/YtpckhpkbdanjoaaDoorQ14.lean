/-
  Texts of this proof, one behind the other (part 14).
-/
import Derived.Test.YtpckhpkbdanjoaaDoorQ13
import Derived.BigRegion
import Derived.Laws.StructEq
/-
  Arguments that are slices, opened: the value, and the cells of its elements ('SlA').-/
namespace Go.Proofs.YtpckhpkbdanjoaaDoor
set_option linter.unusedVariables false
set_option linter.unusedSimpArgs false
open Go.ChangeShapes Go.WideShapes Go.ChangeAt Go.RowKit Go.Joins Go.Deep

section
variable {H : Type} {enc : TypeId × Value → H} {P : Program} {w : World} {base : Nat} {spare : Nat → Bool} {held : Bool}
theorem cell_lt {a : Addr} {v : Value} (h : w.cell? a = some v) : a.block < w.heap.size ∧ a.spot = none := by
  unfold World.cell? at h
  split at h
  · rename_i c e f hh
    refine ⟨?_, ?_⟩
    · rcases Nat.lt_or_ge a.block w.heap.size with h1 | h1
      · exact h1
      · rw [Array.getElem?_eq_none h1] at hh; cases hh
    · split at h
      · cases h
      · rename_i hs; simpa using hs
  · cases h
/-- A slice whose elements are of whatever type of sz cells, opened at every cell. -/
theorem open_cellsT {t e : TypeId} {d : DataW H} {ps : List MemPlace} {v : Value} {sz fuel : Nat} (ht : P.underlying t = some (.slice e)) (hC : P.cellsOf e = sz) (hsz : 0 < sz)
    (hf' : DataW.trod enc P w 0 spare held fuel t [v] = some (d, ps)) :
    ∃ (A : Option Addr) (n cap : Nat) (V : Nat → Nat → Value), v = .slice A n cap ∧ n ≤ cap ∧ cap ≤ maxLen ∧ SlA w 0 w.heap.size sz A n V ∧
      ∀ i, i < n → ∃ cs' k y, cs'.length = sz ∧ (∀ j, j < sz → cs'[j]? = some (V i j)) ∧ DataW.trod enc P w 0 spare held k e cs' = some y := by
  rcases open_slice ht hf' with ⟨hcs, _⟩ | ⟨a, n, cap, m, k, D, Pl, hcs, hb, hl, hm, hmm, _, hx⟩
  · simp only [List.cons.injEq, and_true] at hcs
    subst hcs
    exact ⟨none, 0, 0, fun _ _ => .bool false, rfl, Nat.le_refl _, Nat.zero_le _, fun h => absurd h (Nat.lt_irrefl _), fun i hi => absurd hi (Nat.not_lt_zero _)⟩
  · simp only [List.cons.injEq, and_true] at hcs
    subst hcs
    have hm' : n ≤ m := by rw [hmm]; split <;> omega
    have hx' : ∀ i, i < n → ∃ cs', w.cells? 0 (a.add (i * sz)) sz = some cs' ∧ DataW.trod enc P w 0 spare held k e cs' = some (D i, Pl i) := fun i hi => by
      have := hx i (by omega)
      rwa [hC] at this
    obtain ⟨C, hCs⟩ := choose_lt (α := List Value) hx'
    refine ⟨some a, n, cap, fun i j => (C i).getD j (.bool false), rfl, hl, hm, fun hn => ?_, fun i hi => ?_⟩
    · have at_ : ∀ i j, i < n → j < sz → w.cell? (a.add (i * sz + j)) = some ((C i).getD j (.bool false)) := fun i j hi hj => by
        obtain ⟨_, hlen, hat⟩ := World.cells?_some (hCs i hi).1
        have := hat j hj
        rw [Go.Deep.add_add] at this
        rw [this, List.getD, List.getElem?_eq_getElem (by omega)]
        rfl
      have h00 := cell_lt (at_ 0 0 hn hsz)
      have hspot : a.spot = none := by
        have h1 := at_ 0 0 hn hsz
        have : a.add (0 * sz + 0) = a := by simp [Addr.add]
        rw [this] at h1
        exact (cell_lt h1).2
      have hblk : a.block < w.heap.size := by
        have h1 := at_ 0 0 hn hsz
        have : a.add (0 * sz + 0) = a := by simp [Addr.add]
        rw [this] at h1
        exact (cell_lt h1).1
      obtain ⟨b, off, sp⟩ := a
      simp only at hspot hblk
      subst hspot
      refine ⟨b, off, rfl, Nat.zero_le _, hblk, fun i j hi hj => ?_⟩
      have := at_ i j hi hj
      unfold Addr.add at this
      split at this
      · rename_i h0
        rw [show off + i * sz + j = off by omega]
        exact this
      · rw [show off + i * sz + j = off + (i * sz + j) by omega]
        exact this
    · obtain ⟨h1, h2⟩ := hCs i hi
      obtain ⟨_, hlen, _⟩ := World.cells?_some h1
      exact ⟨C i, k, _, hlen, fun j hj => by simp [List.getD, List.getElem?_eq_getElem (show j < (C i).length by omega)], h2⟩
theorem open_cells {t e : TypeId} {d : DataW H} {ps : List MemPlace} {v : Value} {r : Reach} {b0 sz : Nat} (ht : P.underlying t = some (.slice e)) (hC : P.cellsOf e = sz) (hsz : 0 < sz)
    (hv : Value.okWide P w r b0 t v) (h : DataW.Trod enc P w 0 spare held t v d ps) :
    ∃ (A : Option Addr) (n cap : Nat) (V : Nat → Nat → Value), v = .slice A n cap ∧ n ≤ cap ∧ cap ≤ maxLen ∧ SlA w 0 w.heap.size sz A n V ∧
      ∀ i, i < n → ∃ cs' k y, cs'.length = sz ∧ (∀ j, j < sz → cs'[j]? = some (V i j)) ∧ DataW.trod enc P w 0 spare held k e cs' = some y := by
  obtain ⟨A, n, cap, rfl⟩ := okWide_slice ht hv
  obtain ⟨fuel, hf⟩ := h
  exact open_cellsT ht hC hsz (show DataW.trod enc P w 0 spare held fuel t [.slice A n cap] = some (d, ps) from hf)
theorem take_one {l : List Value} {j : Nat} {v : Value} (h : l[j]? = some v) : (l.drop j).take 1 = [v] := by
  obtain ⟨hj, rfl⟩ := List.getElem?_eq_some_iff.1 h
  rw [List.drop_eq_getElem_cons hj]
  rfl
/-- One field of an element that is a struct of one-cell fields. -/
theorem field_of {e : TypeId} {fs : Array Field} {k : Nat} {cs : List Value} {y : DataW H × List MemPlace} (he : P.underlying e = some (.struct fs)) (hone : oneCellFields P fs = true) (h : DataW.trod enc P w base spare held k e cs = some y)
    {j : Nat} {f : Field} {v : Value} (hj : fs[j]? = some f) (hv : cs[j]? = some v) : ∃ n z, DataW.trod enc P w base spare held n f.type [v] = some z := by
  obtain ⟨ys, n', hn', hy, hlen, hyl, hf⟩ := DataW.trod_struct he h
  obtain ⟨ho, hk⟩ := hone_of hone j f hj
  have h1 := hf j f hj
  rw [ho, hk, take_one hv] at h1
  have hjl : j < ys.length := by rw [hyl]; exact (Array.getElem?_eq_some_iff.1 hj).1
  exact ⟨n', ys[j], by rw [h1]; exact List.getElem?_eq_getElem hjl⟩
end
theorem int_cell {H : Type} {enc : TypeId × Value → H} {P : Program} {w : World} {base : Nat} {spare : Nat → Bool} {held : Bool} {t : TypeId} {n : Nat} {v : Value} {z : DataW H × List MemPlace} (ht : P.underlying t = some (.int .i64)) (h : DataW.trod enc P w base spare held n t [v] = some z) :
    v = .int .i64 (intOf v) ∧ (Lit.int .i64 (intOf v)).wf = true := by
  obtain ⟨x, h1, _, h3⟩ := DataW.trod_int ht h
  simp only [List.cons.injEq, and_true] at h1
  subst h1
  exact ⟨rfl, h3⟩
def strOf : Value → ByteArray | .string s => s | _ => ByteArray.empty
theorem str_cell {H : Type} {enc : TypeId × Value → H} {P : Program} {w : World} {base : Nat} {spare : Nat → Bool} {held : Bool} {t : TypeId} {n : Nat} {v : Value} {z : DataW H × List MemPlace} (ht : P.underlying t = some .string) (h : DataW.trod enc P w base spare held n t [v] = some z) :
    v = .string (strOf v) ∧ (strOf v).size ≤ maxLen := by
  obtain ⟨x, h1, _, h3⟩ := DataW.trod_string ht h
  simp only [List.cons.injEq, and_true] at h1
  subst h1
  exact ⟨rfl, h3⟩
theorem SlA.congr {w : World} {lo hi sz n : Nat} {A : Option Addr} {c c' : Nat → Nat → Value} (h : SlA w lo hi sz A n c) (hc : ∀ i j, i < n → j < sz → c i j = c' i j) : SlA w lo hi sz A n c' := fun hn => by
  obtain ⟨b, off, h1, h2, h3, h4⟩ := h hn
  exact ⟨b, off, h1, h2, h3, fun i j hi hj => (h4 i j hi hj).trans (by rw [hc i j hi hj])⟩

end Go.Proofs.YtpckhpkbdanjoaaDoor

/-
  An argument that is a list of bytes, opened.-/
namespace Go.Proofs.YtpckhpkbdanjoaaDoor
set_option linter.unusedVariables false
set_option linter.unusedSimpArgs false
open Go.ChangeShapes Go.WideShapes Go.ChangeAt Go.RowKit Go.Joins Go.Deep

theorem byte_cell {H : Type} {enc : TypeId × Value → H} {P : Program} {w : World} {base : Nat} {spare : Nat → Bool} {held : Bool} {t : TypeId} {n : Nat} {v : Value} {z : DataW H × List MemPlace} (ht : P.underlying t = some (.int .u8)) (h : DataW.trod enc P w base spare held n t [v] = some z) :
    v = .int .u8 (intOf v) ∧ 0 ≤ intOf v ∧ intOf v ≤ 255 := by
  obtain ⟨x, h1, _, h3⟩ := DataW.trod_int ht h
  simp only [List.cons.injEq, and_true] at h1
  subst h1
  refine ⟨rfl, ?_⟩
  have h4 : (Lit.int .u8 x).wf = true := h3
  simp [Lit.wf, IntKind.min, IntKind.max, IntKind.signed, IntKind.bits] at h4
  show 0 ≤ x ∧ x ≤ 255
  omega
theorem Tryd.cells5 : Tryd.prog.cellsOf 5 = 1 := by kernel_rfl
set_option maxRecDepth 100000 in
theorem openByteT {H : Type} {enc : TypeId × Value → H} {W : World} {spare : Nat → Bool} {held : Bool} {v : Value} {d : DataW H} {ps : List MemPlace} {fuel : Nat}
    (h : DataW.trod enc Tryd.prog W 0 spare held fuel 43 [v] = some (d, ps)) :
    ∃ (A : Option Addr) (n cap : Nat), v = .slice A n cap ∧ n ≤ cap ∧ cap ≤ maxLen ∧ Code W (.slice A n cap) := by
  obtain ⟨A, n, cap, V, rfl, h1, h2, h3, h4⟩ := open_cellsT Tryd.underlying43 Tryd.cells5 (by omega) h
  have key : ∀ i, i < n → V i 0 = .int .u8 (intOf (V i 0)) ∧ 0 ≤ intOf (V i 0) ∧ intOf (V i 0) ≤ 255 := fun i hi => by
    obtain ⟨cs', k, y, hl, hc, hy⟩ := h4 i hi
    have hcs : cs' = [V i 0] := by
      match cs', hl with
      | [x], _ => have := hc 0 (by omega); simp at this; rw [this]
    rw [hcs] at hy
    exact byte_cell Tryd.underlying5 hy
  refine ⟨A, n, cap, rfl, h1, h2, ⟨n, W.heap.size, fun i => intOf (V i 0), (h3.congr (c' := bC fun i => intOf (V i 0)) fun i j hi hj => ?_).shut h1, Nat.le_refl _, by unfold maxLen at h2; omega, fun i hi => (key i hi).2⟩⟩
  obtain rfl : j = 0 := by omega
  exact (key i hi).1
set_option maxRecDepth 100000 in
theorem openByte {H : Type} {enc : TypeId × Value → H} {W : World} {spare : Nat → Bool} {held : Bool} {v : Value} {d : DataW H} {ps : List MemPlace} {r : Reach} {b0 : Nat}
    (hv : Value.okWide Tryd.prog W r b0 43 v) (h : DataW.Trod enc Tryd.prog W 0 spare held 43 v d ps) :
    ∃ (A : Option Addr) (n cap : Nat), v = .slice A n cap ∧ n ≤ cap ∧ cap ≤ maxLen ∧ Code W (.slice A n cap) := by
  obtain ⟨A, n, cap, rfl⟩ := okWide_slice Tryd.underlying43 hv
  obtain ⟨fuel, hf⟩ := h
  exact openByteT (show DataW.trod enc Tryd.prog W 0 spare held fuel 43 [.slice A n cap] = some (d, ps) from hf)

end Go.Proofs.YtpckhpkbdanjoaaDoor

/-
  Walks for FnWays: the law's own comparison of numbers; words for its facts.-/
namespace Go.Proofs.YtpckhpkbdanjoaaDoor
set_option linter.unusedVariables false
set_option linter.unusedSimpArgs false
open Go.RowKit

theorem BxI.bel {w w' : World} {b : Nat} {x y : Int} (h : BxI w b x y) (hb : Below w.heap.size w w') : BxI w' b x y := h.keep (hb.block _ h.lt) hb.size
theorem Code.bel {w w' : World} {v : Value} (h : Code w v) (hb : Below w.heap.size w w') : Code w' v := h.below hb (Nat.le_refl _)
/-- A slice that lies somewhere. -/
def SlW (w : World) (sz : Nat) (v : Value) (n : Nat) (c : Nat → Nat → Value) : Prop := Sl w 0 w.heap.size sz v n c
theorem SlW.bel {w w' : World} {sz n : Nat} {v : Value} {c : Nat → Nat → Value} (h : SlW w sz v n c) (hb : Below w.heap.size w w') : SlW w' sz v n c :=
  (Sl.below (B := w.heap.size) h hb (Nat.le_refl _)).mono (Nat.le_refl _) hb.size
theorem SlW.of {w : World} {lo hi sz n : Nat} {v : Value} {c : Nat → Nat → Value} (h : Sl w lo hi sz v n c) (hh : hi ≤ w.heap.size) : SlW w sz v n c := h.mono (Nat.zero_le _) hh
/-- What has turned since the call's start is above. -/
def BelW (w w' : World) : Prop := Below w.heap.size w w'
theorem BelW.bel {w w' w'' : World} (h : BelW w w') (hb : Below w'.heap.size w' w'') : BelW w w'' := Below.trans h (hb.mono (Below.size h))
set_option maxRecDepth 100000 in
set_option maxHeartbeats 1600000 in
theorem qInts_same (o : Nat → Int) (N lo hi lo' hi' : Nat) (v u : Value) (w : World) (hv : Sl w lo hi 1 v N (iC o)) (hu : Sl w lo' hi' 1 u N (iC o)) (hhi : hi ≤ w.heap.size) (hhi' : hi' ≤ w.heap.size) (hN : N ≤ 1048576) :
    Calls Tryd.prog 44 #[v, u] w fun e w' => e = .returned (.bool true) ∧ Below w.heap.size w w' := by
  obtain ⟨A, cap, rfl, hcap, hA⟩ := hv.open_
  obtain ⟨A', cap', rfl, hcap', hA'⟩ := hu.open_
  clear hv hu
  go_enter Tryd.func44, Tryd.ntmps44
  go_wp2_with fail
  go_loopw [13] (fun i wr => ∃ k : Nat, k ≤ N ∧ i = .int .i64 k ∧ Below w.heap.size w wr) (fun i _ => N - (intOf i).toNat)
  case atStart => exact ⟨0, by omega, rfl, Below.refl _ _⟩
  case round =>
    obtain ⟨k, hk, rfl, hb⟩ := hrel
    have hzr := hb.size
    by_cases hkn : k < N
    · obtain ⟨blk, off, rfl, h1, h2, h3⟩ := (hA.below hb (by omega)) (by omega)
      obtain ⟨blk', off', rfl, h1', h2', h3'⟩ := (hA'.below hb (by omega)) (by omega)
      have c0 : wr.cell? ⟨blk, off + k, none⟩ = some (.int .i64 (o k)) := by simpa [iC] using h3 k 0 hkn (by omega)
      have c1 : wr.cell? ⟨blk', off' + k, none⟩ = some (.int .i64 (o k)) := by simpa [iC] using h3' k 0 hkn (by omega)
      clear h3 h3' hA hA'
      have l3 : blk < wr.heap.size := by omega
      have l4 : blk' < wr.heap.size := by omega
      go_wp2_with fail
      (refine wp_region_below_lit (by kernel_rfl) (by kernel_rfl) ?_; (repeat (first | go_big_quiet_step (fail) | quiet_step (fail))); refine wpQuiet_nil ?_; intro w2 hb2; have hz2 := hb2.size; (try (simp at hz2)); obtain ⟨hcw2, hfw2⟩ := bcell hb2; (try (have hy2 : w.heap.size < w2.heap.size := by omega)); (try (have hyy2 : w.heap.size + 1 < w2.heap.size := by omega)))
      go_wp2
      go_roundw
      case rel => exact ⟨k + 1, by omega, by go_num, (by repeat (first | (with_reducible exact Below.refl _ _) | (with_reducible refine below_ov ?_ ?_) | (with_reducible refine Below.setCell ?_ ?_ _) | (with_reducible refine Below.alloc ?_ ?_ _) | (with_reducible refine Below.drew ?_) | (with_reducible refine below_drewN ?_ _) | (refine Below.trans ?_ (Below.mono ‹Below _ _ _› (by first | omega | (simp; done) | (simp; omega)))) | exact Below.refl _ _ | omega | (focus (simp; done)) | (focus (simp; omega))))⟩
      case measure => simp [intOf]; omega
    · obtain rfl : k = N := by omega
      go_wp2_with fail
      go_ret
      exact ⟨rfl, hb⟩

end Go.Proofs.YtpckhpkbdanjoaaDoor

/-
  Walks for FnSearches: the law's own comparisons (printed by gen_srs.py).-/
namespace Go.Proofs.YtpckhpkbdanjoaaDoor
set_option linter.unusedVariables false
set_option linter.unusedSimpArgs false
open Go.RowKit

set_option maxRecDepth 100000 in
set_option maxHeartbeats 1600000 in
theorem qCells_same (f g : Nat → Int) (N lo hi lo' hi' : Nat) (v u : Value) (w : World) (hv : Sl w lo hi 2 v N (iiC f g)) (hu : Sl w lo' hi' 2 u N (iiC f g)) (hhi : hi ≤ w.heap.size) (hhi' : hi' ≤ w.heap.size) (hN : N ≤ 4611686018427387904) :
    Calls Tryd.prog 49 #[v, u] w fun e w' => e = .returned (.bool true) ∧ Below w.heap.size w w' := by
  obtain ⟨A, cap, rfl, hcap, hA⟩ := hv.open_
  obtain ⟨A', cap', rfl, hcap', hA'⟩ := hu.open_
  clear hv hu
  go_enter Tryd.func49, Tryd.ntmps49
  go_wp2_with fail
  go_loopw [13] (fun i wr => ∃ k : Nat, k ≤ N ∧ i = .int .i64 k ∧ Below w.heap.size w wr) (fun i _ => N - (intOf i).toNat)
  case atStart => exact ⟨0, by omega, rfl, Below.refl _ _⟩
  case round =>
    obtain ⟨k, hk, rfl, hb⟩ := hrel
    have hzr := hb.size
    by_cases hkn : k < N
    · obtain ⟨blk, off, rfl, h1, h2, h3⟩ := (hA.below hb (by omega)) (by omega)
      obtain ⟨blk', off', rfl, h1', h2', h3'⟩ := (hA'.below hb (by omega)) (by omega)
      have c0 : wr.cell? ⟨blk, off + k * 2 , none⟩ = some (.int .i64 (f k)) := by simpa [iiC] using h3 k 0 hkn (by omega)
      have c1 : wr.cell? ⟨blk, off + k * 2 + 1, none⟩ = some (.int .i64 (g k)) := by simpa [iiC] using h3 k 1 hkn (by omega)
      have c0' : wr.cell? ⟨blk', off' + k * 2 , none⟩ = some (.int .i64 (f k)) := by simpa [iiC] using h3' k 0 hkn (by omega)
      have c1' : wr.cell? ⟨blk', off' + k * 2 + 1, none⟩ = some (.int .i64 (g k)) := by simpa [iiC] using h3' k 1 hkn (by omega)
      clear h3 h3' hA hA'
      have l3 : blk < wr.heap.size := by omega
      have l4 : blk' < wr.heap.size := by omega
      go_wp2_with fail
      (refine wp_region_below_lit (by kernel_rfl) (by kernel_rfl) ?_; (repeat (first | go_big_quiet_step (fail) | quiet_step (fail))); refine wpQuiet_nil ?_; intro w2 hb2; have hz2 := hb2.size; (try (simp at hz2)); obtain ⟨hcw2, hfw2⟩ := bcell hb2; (try (have hy2 : w.heap.size < w2.heap.size := by omega)); (try (have hyy2 : w.heap.size + 1 < w2.heap.size := by omega)))
      go_wp2
      go_roundw
      case rel => exact ⟨k + 1, by omega, by go_num, (by repeat (first | (with_reducible exact Below.refl _ _) | (with_reducible refine below_ov ?_ ?_) | (with_reducible refine Below.setCell ?_ ?_ _) | (with_reducible refine Below.alloc ?_ ?_ _) | (with_reducible refine Below.drew ?_) | (with_reducible refine below_drewN ?_ _) | (refine Below.trans ?_ (Below.mono ‹Below _ _ _› (by first | omega | (simp; done) | (simp; omega)))) | exact Below.refl _ _ | omega | (focus (simp; done)) | (focus (simp; omega))))⟩
      case measure => simp [intOf]; omega
    · obtain rfl : k = N := by omega
      go_wp2_with fail
      go_ret
      exact ⟨rfl, hb⟩
set_option maxRecDepth 100000 in
set_option maxHeartbeats 1600000 in
theorem qTexts_same (F : Nat → ByteArray) (N lo hi lo' hi' : Nat) (v u : Value) (w : World) (hv : Sl w lo hi 1 v N (sC F)) (hu : Sl w lo' hi' 1 u N (sC F)) (hhi : hi ≤ w.heap.size) (hhi' : hi' ≤ w.heap.size) (hN : N ≤ 4611686018427387904) :
    Calls Tryd.prog 50 #[v, u] w fun e w' => e = .returned (.bool true) ∧ Below w.heap.size w w' := by
  obtain ⟨A, cap, rfl, hcap, hA⟩ := hv.open_
  obtain ⟨A', cap', rfl, hcap', hA'⟩ := hu.open_
  clear hv hu
  go_enter Tryd.func50, Tryd.ntmps50
  go_wp2_with fail
  go_loopw [13] (fun i wr => ∃ k : Nat, k ≤ N ∧ i = .int .i64 k ∧ Below w.heap.size w wr) (fun i _ => N - (intOf i).toNat)
  case atStart => exact ⟨0, by omega, rfl, Below.refl _ _⟩
  case round =>
    obtain ⟨k, hk, rfl, hb⟩ := hrel
    have hzr := hb.size
    by_cases hkn : k < N
    · obtain ⟨blk, off, rfl, h1, h2, h3⟩ := (hA.below hb (by omega)) (by omega)
      obtain ⟨blk', off', rfl, h1', h2', h3'⟩ := (hA'.below hb (by omega)) (by omega)
      have c0 : wr.cell? ⟨blk, off + k , none⟩ = some (.string (F k)) := by simpa [sC] using h3 k 0 hkn (by omega)
      have c0' : wr.cell? ⟨blk', off' + k , none⟩ = some (.string (F k)) := by simpa [sC] using h3' k 0 hkn (by omega)
      clear h3 h3' hA hA'
      have l3 : blk < wr.heap.size := by omega
      have l4 : blk' < wr.heap.size := by omega
      go_wp2_with fail
      (refine wp_region_below_lit (by kernel_rfl) (by kernel_rfl) ?_; (repeat (first | go_big_quiet_step (fail) | quiet_step (fail))); refine wpQuiet_nil ?_; intro w2 hb2; have hz2 := hb2.size; (try (simp at hz2)); obtain ⟨hcw2, hfw2⟩ := bcell hb2; (try (have hy2 : w.heap.size < w2.heap.size := by omega)); (try (have hyy2 : w.heap.size + 1 < w2.heap.size := by omega)))
      go_wp2
      go_roundw
      case rel => exact ⟨k + 1, by omega, by go_num, (by repeat (first | (with_reducible exact Below.refl _ _) | (with_reducible refine below_ov ?_ ?_) | (with_reducible refine Below.setCell ?_ ?_ _) | (with_reducible refine Below.alloc ?_ ?_ _) | (with_reducible refine Below.drew ?_) | (with_reducible refine below_drewN ?_ _) | (refine Below.trans ?_ (Below.mono ‹Below _ _ _› (by first | omega | (simp; done) | (simp; omega)))) | exact Below.refl _ _ | omega | (focus (simp; done)) | (focus (simp; omega))))⟩
      case measure => simp [intOf]; omega
    · obtain rfl : k = N := by omega
      go_wp2_with fail
      go_ret
      exact ⟨rfl, hb⟩
set_option maxHeartbeats 800000 in
theorem qAbs_any (x : Int) (w : World) (h : -1000 ≤ x ∧ x ≤ 1000) :
    Calls Tryd.prog 51 #[.int .i64 x] w fun e w' => e = .returned (.int .i64 (x.natAbs : Int)) ∧ Below w.heap.size w w' := by
  by_cases h0 : x < 0
  · have d : decide (x < 0) = true := decide_eq_true h0
    have z : IntKind.i64.wrap (-x) = -x := IntWalk.i64_in _ (by omega)
    go_enter Tryd.func51, Tryd.ntmps51
    go_wp2_with fail
    go_ret
    exact ⟨ret_int (by omega), Below.refl _ _⟩
  · have d : decide (x < 0) = false := decide_eq_false h0
    go_enter Tryd.func51, Tryd.ntmps51
    go_wp2_with fail
    go_ret
    exact ⟨ret_int (by omega), Below.refl _ _⟩

end Go.Proofs.YtpckhpkbdanjoaaDoor

/-
  Plain words: a number is put into the list of the places that pass a test. No program in sight.-/
namespace Go.Proofs.YtpckhpkbdanjoaaDoor
set_option linter.unusedVariables false
set_option linter.unusedSimpArgs false

theorem flt_congr {p q : Nat → Bool} : ∀ {n : Nat}, (∀ i, i < n → p i = q i) → flt p n = flt q n
  | 0, _ => rfl
  | n + 1, h => by rw [flt, flt, flt_congr (n := n) fun i hi => h i (by omega), h n (by omega)]
theorem flt_mem {p : Nat → Bool} : ∀ {n y : Nat}, y ∈ flt p n → y < n ∧ p y = true
  | 0, _, h => by simp [flt] at h
  | n + 1, y, h => by
    rw [flt, List.mem_append] at h
    rcases h with h | h
    · have := flt_mem h
      exact ⟨by omega, this.2⟩
    · by_cases hp : p n = true
      · rw [if_pos hp] at h
        simp at h
        subst h
        exact ⟨by omega, hp⟩
      · rw [if_neg hp] at h
        simp at h
/-- What comes behind the places below x. -/
def fltR (p : Nat → Bool) (x : Nat) : Nat → List Nat
  | 0 => []
  | n + 1 => if n < x then [] else fltR p x n ++ if p n = true then [n] else []
theorem flt_split (p : Nat → Bool) (x : Nat) : ∀ n, x ≤ n → flt p n = flt p x ++ fltR p x n
  | 0, h => by
    obtain rfl : x = 0 := by omega
    rfl
  | n + 1, h => by
    rcases Nat.lt_or_ge n x with h1 | h1
    · obtain rfl : x = n + 1 := by omega
      rw [fltR, if_pos h1]
      simp
    · rw [fltR, if_neg (by omega), flt, flt_split p x n h1, List.append_assoc]
theorem fltR_ge {p : Nat → Bool} {x : Nat} : ∀ {n y : Nat}, y ∈ fltR p x n → x ≤ y
  | 0, _, h => by simp [fltR] at h
  | n + 1, y, h => by
    rw [fltR] at h
    by_cases h1 : n < x
    · rw [if_pos h1] at h
      simp at h
    · rw [if_neg h1, List.mem_append] at h
      rcases h with h | h
      · exact fltR_ge h
      · by_cases hp : p n = true
        · rw [if_pos hp] at h
          simp at h
          omega
        · rw [if_neg hp] at h
          simp at h
/-- One place more. -/
def orP (p : Nat → Bool) (x : Nat) (i : Nat) : Bool := p i || decide (i = x)
theorem orP_same {p : Nat → Bool} {x : Nat} (h : p x = true) (n : Nat) : flt (orP p x) n = flt p n := flt_congr fun i _ => by
  by_cases e : i = x
  · subst e; simp [orP, h]
  · simp [orP, e]
theorem fltR_or {p : Nat → Bool} {x : Nat} (h : p x = false) : ∀ n, x < n → fltR (orP p x) x n = x :: fltR p x n
  | 0, hn => absurd hn (Nat.not_lt_zero _)
  | n + 1, hn => by
    rw [fltR, fltR, if_neg (show ¬ n < x by omega), if_neg (show ¬ n < x by omega)]
    rcases Nat.lt_succ_iff_lt_or_eq.1 hn with h1 | rfl
    · rw [fltR_or h n h1]
      have hne : ¬ n = x := by omega
      have e : orP p x n = p n := by simp [orP, hne]
      rw [e]
      rfl
    · have e : orP p x x = true := by simp [orP]
      rw [if_pos e, h]
      have e0 : ∀ q : Nat → Bool, fltR q x x = [] := fun q => by
        cases x with
        | zero => rfl
        | succ k => rw [fltR, if_pos (Nat.lt_succ_self k)]
      rw [e0, e0]
      rfl
/-- The list with a place more: what lies below it, it, what lies above. -/
theorem flt_or {p : Nat → Bool} {x n : Nat} (h : p x = false) (hx : x < n) : flt (orP p x) n = flt p x ++ x :: fltR p x n := by
  rw [flt_split (orP p x) x n (by omega), fltR_or h n hx]
  congr 1
  exact flt_congr fun i hi => by
    have hne : ¬ i = x := by omega
    simp [orP, hne]
/-- The first number that is not below x: it is x or there is none such. -/
theorem flt_head {p : Nat → Bool} {x n : Nat} (hx : x < n) : ((flt p n)[(flt p x).length]? = some x) ↔ p x = true := by
  rw [flt_split p x n (by omega), List.getElem?_append_right (Nat.le_refl _), Nat.sub_self]
  constructor
  · intro h
    have : x ∈ flt p n := by
      rw [flt_split p x n (by omega)]
      exact List.mem_append_right _ (List.mem_of_getElem? h)
    exact (flt_mem this).2
  · intro h
    have key : ∀ n, x < n → ∃ r, fltR p x n = x :: r := by
      intro n
      induction n with
      | zero => intro hn; omega
      | succ n ih =>
        intro hn
        rw [fltR, if_neg (by omega)]
        rcases Nat.lt_succ_iff_lt_or_eq.1 hn with h1 | rfl
        · obtain ⟨r, hr⟩ := ih h1
          exact ⟨r ++ _, by rw [hr]; rfl⟩
        · have e0 : fltR p x x = [] := by
            cases x with
            | zero => rfl
            | succ k => rw [fltR, if_pos (Nat.lt_succ_self k)]
          exact ⟨[], by rw [e0, if_pos h]; rfl⟩
    obtain ⟨r, hr⟩ := key n hx
    rw [hr]
    rfl
theorem flt_below {p : Nat → Bool} {x n j : Nat} (hx : x ≤ n) (hj : j < (flt p x).length) : ∃ y, (flt p n)[j]? = some y ∧ y < x := by
  rw [flt_split p x n hx, List.getElem?_append_left hj, List.getElem?_eq_getElem hj]
  exact ⟨_, rfl, (flt_mem (List.getElem_mem hj)).1⟩
theorem flt_above {p : Nat → Bool} {x n j y : Nat} (hx : x ≤ n) (hj : (flt p x).length ≤ j) (h : (flt p n)[j]? = some y) : x ≤ y := by
  rw [flt_split p x n hx, List.getElem?_append_right hj] at h
  exact fltR_ge (List.mem_of_getElem? h)

end Go.Proofs.YtpckhpkbdanjoaaDoor

/-
  Plain words: the open cells on a way or next to it, put into a list of places one after another. No program in sight.-/
namespace Go.Proofs.YtpckhpkbdanjoaaDoor
set_option linter.unusedVariables false
set_option linter.unusedSimpArgs false

/-- One row of the square around a cell: the first b of its three cells. -/
def nrK (F : Nat → ByteArray) (n : Nat) (P : Nat → Bool) (x y : Int) : Nat → Nat → Bool
  | 0 => P
  | b + 1 => if opB F n x (y + ((b : Int) - 1)) = true then orP (nrK F n P x y b) (ixF F (x, y + ((b : Int) - 1))) else nrK F n P x y b
/-- The first a rows of the square. -/
def nrR (F : Nat → ByteArray) (n : Nat) (P : Nat → Bool) (x y : Int) : Nat → Nat → Bool
  | 0 => P
  | a + 1 => nrK F n (nrR F n P x y a) (x + ((a : Int) - 1)) y 3
/-- The first t cells of the way. -/
def nrF (F : Nat → ByteArray) (n : Nat) (p q : Nat → Int) : Nat → Nat → Bool
  | 0 => fun _ => false
  | t + 1 => nrR F n (nrF F n p q t) (p t) (q t) 3
theorem nrK_iff {F : Nat → ByteArray} {n : Nat} {P : Nat → Bool} {x y : Int} {i : Nat} : ∀ {b : Nat}, nrK F n P x y b i = true ↔ P i = true ∨ ∃ k : Nat, k < b ∧ opB F n x (y + ((k : Int) - 1)) = true ∧ i = ixF F (x, y + ((k : Int) - 1))
  | 0 => by simp [nrK]
  | b + 1 => by
    rw [nrK]
    have ih := nrK_iff (F := F) (n := n) (P := P) (x := x) (y := y) (i := i) (b := b)
    split
    · rename_i h
      rw [orP, Bool.or_eq_true, ih, decide_eq_true_eq]
      constructor
      · rintro ((h1 | ⟨k, h1, h2⟩) | h1)
        · exact .inl h1
        · exact .inr ⟨k, by omega, h2⟩
        · exact .inr ⟨b, by omega, h, h1⟩
      · rintro (h1 | ⟨k, h1, h2, h3⟩)
        · exact .inl (.inl h1)
        · by_cases e : k = b
          · subst e; exact .inr h3
          · exact .inl (.inr ⟨k, by omega, h2, h3⟩)
    · rename_i h
      rw [ih]
      constructor
      · rintro (h1 | ⟨k, h1, h2⟩)
        · exact .inl h1
        · exact .inr ⟨k, by omega, h2⟩
      · rintro (h1 | ⟨k, h1, h2, h3⟩)
        · exact .inl h1
        · by_cases e : k = b
          · subst e; exact absurd h2 h
          · exact .inr ⟨k, by omega, h2, h3⟩
theorem nrR_iff {F : Nat → ByteArray} {n : Nat} {P : Nat → Bool} {x y : Int} {i : Nat} : ∀ {a : Nat}, nrR F n P x y a i = true ↔ P i = true ∨ ∃ j : Nat, j < a ∧ ∃ k : Nat, k < 3 ∧ opB F n (x + ((j : Int) - 1)) (y + ((k : Int) - 1)) = true ∧ i = ixF F (x + ((j : Int) - 1), y + ((k : Int) - 1))
  | 0 => by simp [nrR]
  | a + 1 => by
    rw [nrR, nrK_iff, nrR_iff]
    constructor
    · rintro ((h1 | ⟨j, h1, h2⟩) | h1)
      · exact .inl h1
      · exact .inr ⟨j, by omega, h2⟩
      · exact .inr ⟨a, by omega, h1⟩
    · rintro (h1 | ⟨j, h1, h2⟩)
      · exact .inl (.inl h1)
      · by_cases e : j = a
        · subst e; exact .inr h2
        · exact .inl (.inr ⟨j, by omega, h2⟩)
theorem nrF_iff {F : Nat → ByteArray} {n : Nat} {p q : Nat → Int} {i : Nat} : ∀ {t : Nat}, nrF F n p q t i = true ↔ ∃ s, s < t ∧ ∃ j : Nat, j < 3 ∧ ∃ k : Nat, k < 3 ∧ opB F n (p s + ((j : Int) - 1)) (q s + ((k : Int) - 1)) = true ∧ i = ixF F (p s + ((j : Int) - 1), q s + ((k : Int) - 1))
  | 0 => by simp [nrF]
  | t + 1 => by
    rw [nrF, nrR_iff, nrF_iff]
    constructor
    · rintro (⟨s, h1, h2⟩ | h1)
      · exact ⟨s, by omega, h2⟩
      · exact ⟨t, by omega, h1⟩
    · rintro ⟨s, h1, h2⟩
      by_cases e : s = t
      · subst e; exact .inr h2
      · exact .inl ⟨s, by omega, h2⟩

end Go.Proofs.YtpckhpkbdanjoaaDoor

/-
  Plain words: the searched cells: what the program asks of a place is what the reference's list holds; lists of cells with numbers. No program in sight.-/
namespace Go.Proofs.YtpckhpkbdanjoaaDoor
set_option linter.unusedVariables false
set_option linter.unusedSimpArgs false
open Go.RowKit

/-- A cell of a way is on a cell or next to it. -/
def nearB (x y p q : Int) : Bool := inB (p - x) (-1) 1 && inB (q - y) (-1) 1
def anyN (x y : Int) (p q : Nat → Int) (m : Nat) : Bool := decide (0 ≤ fstI (fun t => nearB x y (p t) (q t)) m)
theorem anyN_iff {x y : Int} {p q : Nat → Int} {m : Nat} : anyN x y p q m = true ↔ ∃ t, t < m ∧ nearB x y (p t) (q t) = true := by
  rw [anyN, decide_eq_true_eq]
  rcases fstI_cases (fun t => nearB x y (p t) (q t)) m with ⟨h1, h2⟩ | ⟨k, h1, h2, h3, _⟩
  · rw [h1]
    constructor
    · intro h; omega
    · rintro ⟨t, ht, h⟩
      have := h2 t ht
      rw [this] at h
      cases h
  · rw [h2]
    exact ⟨fun _ => ⟨k, h1, h3⟩, fun _ => by omega⟩
/-- What the program asks of the place with row x and column y. -/
def seT (F : Nat → ByteArray) (n : Nat) (p q : Nat → Int) (m x y : Nat) : Bool := opB F n x y && anyN x y p q m
theorem nr_se {F : Nat → ByteArray} {n m x y : Nat} {p q : Nat → Int} (hy : y < (F 0).size) : nrF F n p q m (x * (F 0).size + y) = seT F n p q m x y := by
  rw [Bool.eq_iff_iff, nrF_iff, seT, Bool.and_eq_true, anyN_iff]
  constructor
  · rintro ⟨s, hs, j, hj, k, hk, ho, e⟩
    obtain ⟨h1, h2, h3, h4⟩ := opP_bd (p := (_, _)) ho
    have e1 := ix_cast (p := (_, _)) ho
    rw [← e] at e1
    obtain ⟨e2, e3⟩ := ix_inj' (W := (F 0).size) (r' := (x : Int)) (c' := (y : Int)) h3 h4 (by omega) (by omega) (by rw [e1]; simp)
    refine ⟨by rw [← e2, ← e3]; exact ho, s, hs, ?_⟩
    simp only at e2 e3
    simp only [nearB, Bool.and_eq_true, inB_iff]
    omega
  · rintro ⟨ho, t, ht, hn⟩
    simp only [nearB, Bool.and_eq_true, inB_iff] at hn
    obtain ⟨⟨a1, a2⟩, a3, a4⟩ := hn
    have e1 : p t + (((x - p t + 1).toNat : Int) - 1) = x := by omega
    have e2 : q t + (((y - q t + 1).toNat : Int) - 1) = y := by omega
    refine ⟨t, ht, (x - p t + 1).toNat, by omega, (y - q t + 1).toNat, by omega, by rw [e1, e2]; exact ho, ?_⟩
    rw [e1, e2]
    have hh : (x : Int) * ((F 0).size : Int) + (y : Int) = (ixF F ((x : Int), (y : Int)) : Int) := ix_cast (p := ((x : Int), (y : Int))) ho
    have e3 : ((x * (F 0).size + y : Nat) : Int) = (ixF F ((x : Int), (y : Int)) : Int) := by rw [← hh]; push_cast; rfl
    exact Int.ofNat_inj.1 e3

/-- The cells with the numbers that pass. -/
def fltC (W : Nat) (P : Nat → Bool) : Nat → List Value
  | 0 => []
  | k + 1 => fltC W P k ++ if P k = true then [.int .i64 ((k : Int) / (W : Int)), .int .i64 ((k : Int) % (W : Int))] else []
theorem fltC_yes {W : Nat} {P : Nat → Bool} {k : Nat} (h : P k = true) : fltC W P (k + 1) = fltC W P k ++ [.int .i64 ((k : Int) / (W : Int)), .int .i64 ((k : Int) % (W : Int))] := by rw [fltC, if_pos h]
theorem fltC_no {W : Nat} {P : Nat → Bool} {k : Nat} (h : P k = false) : fltC W P (k + 1) = fltC W P k := by rw [fltC, h]; simp
theorem fltC_at {W : Nat} {P : Nat → Bool} {x y : Nat} (hy : y < W) (h : P (x * W + y) = true) : fltC W P (x * W + y + 1) = fltC W P (x * W + y) ++ [.int .i64 (x : Int), .int .i64 (y : Int)] := by
  rw [fltC_yes h]
  have hW : 0 < W := by omega
  have e1 : (((x * W + y : Nat) : Int) / (W : Int)) = (x : Int) := by
    rw [← Int.natCast_ediv]
    rw [Nat.mul_comm, Nat.mul_add_div hW, Nat.div_eq_of_lt hy]; rfl
  have e2 : (((x * W + y : Nat) : Int) % (W : Int)) = (y : Int) := by
    rw [← Int.natCast_emod, Nat.mul_comm, Nat.mul_add_mod, Nat.mod_eq_of_lt hy]
  rw [e1, e2]
theorem fltC_congr {W : Nat} {P Q : Nat → Bool} : ∀ {k : Nat}, (∀ i, i < k → P i = Q i) → fltC W P k = fltC W Q k
  | 0, _ => rfl
  | k + 1, h => by rw [fltC, fltC, fltC_congr fun i hi => h i (by omega), h k (by omega)]
def rI (W : Nat) (P : Nat → Bool) (N i : Nat) : Int := fltI P N i / (W : Int)
def cI (W : Nat) (P : Nat → Bool) (N i : Nat) : Int := fltI P N i % (W : Int)
theorem fltI_old {P : Nat → Bool} {k i : Nat} (hi : i < (flt P k).length) : fltI P (k + 1) i = fltI P k i := by
  rw [fltI, fltI, flt]
  congr 1
  simp only [List.getD]
  rw [List.getElem?_append_left hi]
theorem fltI_new {P : Nat → Bool} {k : Nat} (h : P k = true) : fltI P (k + 1) (flt P k).length = k := by
  rw [fltI, flt_yes h]
  simp [List.getD]
theorem fltC_row (W : Nat) (P : Nat → Bool) : ∀ n, fltC W P n = rowL (iiC (rI W P n) (cI W P n)) 2 (flt P n).length
  | 0 => rfl
  | k + 1 => by
    have hc : rowL (iiC (rI W P k) (cI W P k)) 2 (flt P k).length = rowL (iiC (rI W P (k + 1)) (cI W P (k + 1))) 2 (flt P k).length := rowL_congr fun i j hi _ => by
      simp only [iiC, rI, cI, fltI_old hi]
    by_cases h : P k = true
    · rw [fltC_yes h, fltC_row W P k, hc, flt_yes h, List.length_append]
      show _ = rowL _ 2 ((flt P k).length + 1)
      rw [rowL]
      congr 1
      have e : (List.range 2).map (iiC (rI W P (k + 1)) (cI W P (k + 1)) (flt P k).length) = [.int .i64 (rI W P (k + 1) (flt P k).length), .int .i64 (cI W P (k + 1) (flt P k).length)] := rfl
      rw [e, rI, cI, fltI_new h]
    · have h' : P k = false := by simpa using h
      rw [fltC_no h', fltC_row W P k, hc, flt_no h']
/-- The cells with the numbers of a list, one more. -/
theorem rowC_snoc (W : Nat) (P : Nat → Bool) (N t : Nat) : rowL (iiC (rI W P N) (cI W P N)) 2 (t + 1) = rowL (iiC (rI W P N) (cI W P N)) 2 t ++ [.int .i64 (fltI P N t / (W : Int)), .int .i64 (fltI P N t % (W : Int))] := by
  rw [rowL]
  congr 1
theorem fltI_lt {P : Nat → Bool} {N i : Nat} (hi : i < (flt P N).length) : 0 ≤ fltI P N i ∧ fltI P N i < N := by
  rw [fltI]
  have hm : (flt P N).getD i 0 ∈ flt P N := by
    simp only [List.getD]
    rw [List.getElem?_eq_getElem hi]
    exact List.getElem_mem hi
  have := (flt_mem hm).1
  omega

end Go.Proofs.YtpckhpkbdanjoaaDoor

/-
  Walks: a number among numbers (the reference's), a cell among cells (the library's).-/
namespace Go.Proofs.YtpckhpkbdanjoaaDoor
set_option linter.unusedVariables false
set_option linter.unusedSimpArgs false
open Go.RowKit

def hasN (f : Nat → Int) (x : Int) (m : Nat) : Bool := decide (0 ≤ fstI (fun t => decide (f t = x)) m)
def hasC (p q : Nat → Int) (x y : Int) (m : Nat) : Bool := decide (0 ≤ fstI (fun t => decide (p t = x) && decide (q t = y)) m)
theorem some_iff {f : Nat → Bool} {m : Nat} : decide (0 ≤ fstI f m) = true ↔ ∃ t, t < m ∧ f t = true := by
  rw [decide_eq_true_eq]
  rcases fstI_cases f m with ⟨h1, h2⟩ | ⟨k, h1, h2, h3, _⟩
  · rw [h1]
    constructor
    · intro h; omega
    · rintro ⟨t, ht, h⟩
      rw [h2 t ht] at h
      cases h
  · rw [h2]
    exact ⟨fun _ => ⟨k, h1, h3⟩, fun _ => by omega⟩
theorem flt_has {P : Nat → Bool} : ∀ {N k : Nat}, k ∈ flt P N ↔ k < N ∧ P k = true
  | 0, k => by simp [flt]
  | N + 1, k => by
    rw [flt, List.mem_append, flt_has]
    by_cases h : P N = true
    · rw [if_pos h]
      simp only [List.mem_singleton]
      constructor
      · rintro (⟨h1, h2⟩ | rfl)
        · exact ⟨by omega, h2⟩
        · exact ⟨by omega, h⟩
      · rintro ⟨h1, h2⟩
        by_cases e : k = N
        · exact .inr e
        · exact .inl ⟨by omega, h2⟩
    · rw [if_neg h]
      simp only [List.not_mem_nil, or_false]
      constructor
      · rintro ⟨h1, h2⟩; exact ⟨by omega, h2⟩
      · rintro ⟨h1, h2⟩
        by_cases e : k = N
        · subst e; exact absurd h2 h
        · exact ⟨by omega, h2⟩
theorem flt_at {P : Nat → Bool} {N k : Nat} (hk : k < N) : (∃ t, t < (flt P N).length ∧ fltI P N t = k) ↔ P k = true := by
  constructor
  · rintro ⟨t, ht, e⟩
    have hm : (flt P N).getD t 0 ∈ flt P N := by
      simp only [List.getD]
      rw [List.getElem?_eq_getElem ht]
      exact List.getElem_mem ht
    have e2 : (flt P N).getD t 0 = k := by rw [fltI] at e; exact Int.ofNat_inj.1 e
    rw [e2] at hm
    exact (flt_has.1 hm).2
  · intro h
    obtain ⟨t, ht, e⟩ := List.getElem_of_mem (flt_has.2 ⟨hk, h⟩)
    refine ⟨t, ht, ?_⟩
    rw [fltI]
    simp only [List.getD]
    rw [List.getElem?_eq_getElem ht, e]
    rfl
theorem hasN_flt {P : Nat → Bool} {N k : Nat} (hk : k < N) : hasN (fltI P N) k (flt P N).length = P k := by
  rw [Bool.eq_iff_iff, hasN, some_iff, ← flt_at hk]
  simp only [decide_eq_true_eq]
theorem hasC_flt {W : Nat} {P : Nat → Bool} {N k : Nat} (hW : 0 < W) (hk : k < N) : hasC (rI W P N) (cI W P N) ((k : Int) / (W : Int)) ((k : Int) % (W : Int)) (flt P N).length = P k := by
  rw [Bool.eq_iff_iff, hasC, some_iff, ← flt_at hk]
  constructor
  · rintro ⟨t, ht, e⟩
    obtain ⟨e1, e2⟩ : rI W P N t = (k : Int) / (W : Int) ∧ cI W P N t = (k : Int) % (W : Int) := by simpa using e
    refine ⟨t, ht, ?_⟩
    have a := Int.mul_ediv_add_emod (fltI P N t) W
    have b := Int.mul_ediv_add_emod (k : Int) W
    rw [rI] at e1
    rw [cI] at e2
    rw [e1, e2] at a
    omega
  · rintro ⟨t, ht, e⟩
    refine ⟨t, ht, ?_⟩
    have h1 : rI W P N t = (k : Int) / (W : Int) := by rw [rI, e]
    have h2 : cI W P N t = (k : Int) % (W : Int) := by rw [cI, e]
    simp [h1, h2]
set_option maxRecDepth 100000 in
set_option maxHeartbeats 1600000 in
theorem l1Has_any (f : Nat → Int) (m : Nat) (x : Int) (lo hi : Nat) (v : Value) (w : World) (hv : Sl w lo hi 1 v m (iC f)) (hhi : hi ≤ w.heap.size) (hm : m ≤ 1048576) :
    Calls Tryd.prog 71 #[v, .int .i64 x] w fun e w' => e = .returned (.bool (hasN f x m)) ∧ w = w' := by
  obtain ⟨A, cap, rfl, hcap, hA⟩ := hv.open_
  clear hv
  go_enter Tryd.func71, Tryd.ntmps71
  go_wp2_with fail
  go_loopw [9] (fun i wr => ∃ k : Nat, k ≤ m ∧ i = .int .i64 k ∧ Hid (∀ j, j < k → decide (f j = x) = false) ∧ w = wr) (fun i _ => m - (intOf i).toNat)
  case atStart => exact ⟨0, by omega, rfl, fun j hj => by omega, rfl⟩
  case round =>
    obtain ⟨k, hk, rfl, hj, rfl⟩ := hrel
    by_cases hkn : k < m
    · obtain ⟨blk, off, rfl, h1, h2, h3⟩ := hA (by omega)
      have c0 : w.cell? ⟨blk, off + k, none⟩ = some (.int .i64 (f k)) := by
        have := h3 k 0 hkn (by omega)
        simpa [iC] using this
      have l0 : blk < w.heap.size := by omega
      clear h3 hA
      by_cases e : f k = x
      · have d0 : (f k == x) = true := by simp [e]
        have HG : Hid (hasN f x m = true) := by show _ = _; rw [hasN, fstI_at hkn hj.out (by simp [e])]; exact decide_eq_true (by omega)
        go_wp2_with fail
        go_ret
        exact ⟨ret_bool HG.out.symm, rfl⟩
      · have d0 : (f k == x) = false := by simp [e]
        have HN : Hid (∀ j, j < k + 1 → decide (f j = x) = false) := upto_snocF (p := fun j => decide (f j = x)) hj.out (decide_eq_false e)
        go_wp2_with fail
        go_roundw
        case rel => exact ⟨k + 1, by omega, by go_num, HN.out, trivial⟩
        case measure => simp [intOf]; omega
    · obtain rfl : k = m := by omega
      have HG : Hid (hasN f x k = false) := by show _ = _; rw [hasN, fstI_none hj.out]; rfl
      go_wp2_with fail
      go_ret
      exact ⟨ret_bool HG.out.symm, rfl⟩
set_option maxRecDepth 100000 in
set_option maxHeartbeats 1600000 in
theorem IndexCell_any (p q : Nat → Int) (m : Nat) (x y : Int) (lo hi : Nat) (v : Value) (w : World) (hv : Sl w lo hi 2 v m (iiC p q)) (hhi : hi ≤ w.heap.size) (hm : m ≤ 1048576) :
    Calls Tryd.prog 95 #[v, .agg #[.int .i64 x, .int .i64 y]] w fun e w' => e = .returned (.int .i64 (fstI (fun t => decide (p t = x) && decide (q t = y)) m)) ∧ Below w.heap.size w w' := by
  obtain ⟨A, cap, rfl, hcap, hA⟩ := hv.open_
  clear hv
  have B0 : Below w.heap.size w (w.alloc (.cells #[.int .i64 x, .int .i64 y] 38)) := (Below.refl _ _).alloc (Nat.le_refl _) _
  have N0 : (w.alloc (.cells #[.int .i64 x, .int .i64 y] 38)).cell? ⟨w.heap.size, 0, none⟩ = some (.int .i64 x) := World.cell?_alloc_new _ _ _ _
  have N1 : (w.alloc (.cells #[.int .i64 x, .int .i64 y] 38)).cell? ⟨w.heap.size, 1, none⟩ = some (.int .i64 y) := World.cell?_alloc_new _ _ _ _
  go_enter Tryd.func95, Tryd.ntmps95
  go_wp2_with fail
  go_loopw [8] (fun i wr => ∃ k : Nat, k ≤ m ∧ i = .int .i64 k ∧ Hid (∀ j, j < k → (decide (p j = x) && decide (q j = y)) = false) ∧ Hid (Below w.heap.size w wr) ∧ Hid (wr.cell? ⟨w.heap.size, 0, none⟩ = some (.int .i64 x) ∧ wr.cell? ⟨w.heap.size, 1, none⟩ = some (.int .i64 y) ∧ w.heap.size < wr.heap.size)) (fun i _ => m - (intOf i).toNat)
  case atStart => exact ⟨0, by omega, rfl, fun j hj => by omega, B0, ⟨N0, N1, by simp⟩⟩
  case round =>
    obtain ⟨k, hk, rfl, hj, HB, HX⟩ := hrel
    clear N0 N1 B0
    by_cases hkn : k < m
    · obtain ⟨blk, off, rfl, h1, h2, h3⟩ := (hA.below HB.out (by omega)) (by omega)
      have hz := HB.out.size
      have c0 : wr.cell? ⟨blk, off + k * 2, none⟩ = some (.int .i64 (p k)) := by simpa [iiC] using h3 k 0 hkn (by omega)
      have c1 : wr.cell? ⟨blk, off + k * 2 + 1, none⟩ = some (.int .i64 (q k)) := by simpa [iiC] using h3 k 1 hkn (by omega)
      obtain ⟨x0, x1, xl⟩ := HX.out
      have lb : blk < wr.heap.size := by omega
      clear h3 hA
      by_cases e1 : x = p k
      · by_cases e2 : y = q k
        · have HG : Hid (fstI (fun t => decide (p t = x) && decide (q t = y)) m = k) := fstI_at hkn hj.out (by simp [e1, e2])
          go_wp2_with fail
          (refine wp_region_below_lit (by kernel_rfl) (by kernel_rfl) ?_; (repeat (first | go_big_quiet_step (fail) | quiet_step (fail))); refine wpQuiet_nil ?_; intro w2 hb2; have hz2 := hb2.size; (try (simp at hz2)); obtain ⟨hcw2, hfw2⟩ := bcell hb2; (try (have hy2 : w.heap.size < w2.heap.size := by omega)); (try (have hyy2 : w.heap.size + 1 < w2.heap.size := by omega)))
          go_wp2_with fail
          go_ret
          exact ⟨ret_int HG.out.symm, HB.out.trans (hb2.mono hz)⟩
        · have e2' : ¬ q k = y := fun h => e2 h.symm
          have HN : Hid (∀ j, j < k + 1 → (decide (p j = x) && decide (q j = y)) = false) := upto_snocF (p := fun j => decide (p j = x) && decide (q j = y)) hj.out (by simp [e2'])
          go_wp2_with fail
          (refine wp_region_below_lit (by kernel_rfl) (by kernel_rfl) ?_; (repeat (first | go_big_quiet_step (fail) | quiet_step (fail))); refine wpQuiet_nil ?_; intro w2 hb2; have hz2 := hb2.size; (try (simp at hz2)); obtain ⟨hcw2, hfw2⟩ := bcell hb2; (try (have hy2 : w.heap.size < w2.heap.size := by omega)); (try (have hyy2 : w.heap.size + 1 < w2.heap.size := by omega)))
          have HB2 : Hid (Below w.heap.size w w2) := HB.out.trans (hb2.mono hz)
          have HX2 : Hid (w2.cell? ⟨w.heap.size, 0, none⟩ = some (.int .i64 x) ∧ w2.cell? ⟨w.heap.size, 1, none⟩ = some (.int .i64 y) ∧ w.heap.size < w2.heap.size) := ⟨(hb2.cell (p := ⟨w.heap.size, 0, none⟩) xl).trans x0, (hb2.cell (p := ⟨w.heap.size, 1, none⟩) xl).trans x1, by omega⟩
          clear x0 x1 c0 c1 hcw2 hfw2 hb2
          go_wp2_with fail
          go_roundw
          case rel => exact ⟨k + 1, by omega, by go_num, HN.out, HB2.out, HX2.out⟩
          case measure => simp [intOf]; omega
      · have e1' : ¬ p k = x := fun h => e1 h.symm
        have HN : Hid (∀ j, j < k + 1 → (decide (p j = x) && decide (q j = y)) = false) := upto_snocF (p := fun j => decide (p j = x) && decide (q j = y)) hj.out (by simp [e1'])
        go_wp2_with fail
        (refine wp_region_below_lit (by kernel_rfl) (by kernel_rfl) ?_; (repeat (first | go_big_quiet_step (fail) | quiet_step (fail))); refine wpQuiet_nil ?_; intro w2 hb2; have hz2 := hb2.size; (try (simp at hz2)); obtain ⟨hcw2, hfw2⟩ := bcell hb2; (try (have hy2 : w.heap.size < w2.heap.size := by omega)); (try (have hyy2 : w.heap.size + 1 < w2.heap.size := by omega)))
        have HB2 : Hid (Below w.heap.size w w2) := HB.out.trans (hb2.mono hz)
        have HX2 : Hid (w2.cell? ⟨w.heap.size, 0, none⟩ = some (.int .i64 x) ∧ w2.cell? ⟨w.heap.size, 1, none⟩ = some (.int .i64 y) ∧ w.heap.size < w2.heap.size) := ⟨(hb2.cell (p := ⟨w.heap.size, 0, none⟩) xl).trans x0, (hb2.cell (p := ⟨w.heap.size, 1, none⟩) xl).trans x1, by omega⟩
        clear x0 x1 c0 c1 hcw2 hfw2 hb2
        go_wp2_with fail
        go_roundw
        case rel => exact ⟨k + 1, by omega, by go_num, HN.out, HB2.out, HX2.out⟩
        case measure => simp [intOf]; omega
    · obtain rfl : k = m := by omega
      have HG : Hid (fstI (fun t => decide (p t = x) && decide (q t = y)) k = -1) := fstI_none hj.out
      go_wp2_with fail
      go_ret
      exact ⟨ret_int HG.out.symm, HB.out⟩
set_option maxHeartbeats 800000 in
theorem ContainsCell_any (p q : Nat → Int) (m : Nat) (x y : Int) (lo hi : Nat) (v : Value) (w : World) (hv : Sl w lo hi 2 v m (iiC p q)) (hhi : hi ≤ w.heap.size) (hm : m ≤ 1048576) :
    Calls Tryd.prog 69 #[v, .agg #[.int .i64 x, .int .i64 y]] w fun e w' => e = .returned (.bool (hasC p q x y m)) ∧ Below w.heap.size w w' := by
  obtain ⟨A, cap, rfl, hcap, _⟩ := id hv.open_
  go_enter Tryd.func69, Tryd.ntmps69
  go_wp2_with fail
  refine (IndexCell_any p q m x y lo hi _ _ (hv.below (B := w.heap.size) (by repeat (first | (with_reducible exact Below.refl _ _) | (with_reducible refine below_ov ?_ ?_) | (with_reducible refine Below.setCell ?_ ?_ _) | (with_reducible refine Below.alloc ?_ ?_ _) | (with_reducible refine Below.drew ?_) | (with_reducible refine below_drewN ?_ _) | (refine Below.trans ?_ (Below.mono ‹Below _ _ _› (by first | omega | (simp; done) | (simp; omega)))) | exact Below.refl _ _ | omega | (focus (simp; done)) | (focus (simp; omega)))) hhi) (by first | omega | (simp; done) | (simp; omega)) hm).mono ?_
  rintro e w2 ⟨rfl, hb2⟩
  have hz2 := hb2.size
  go_wp2_with fail
  go_ret
  exact ⟨ret_bool (by first | rfl | (simp [hasC, ge_iff_le])), (by repeat (first | (with_reducible exact Below.refl _ _) | (with_reducible refine below_ov ?_ ?_) | (with_reducible refine Below.setCell ?_ ?_ _) | (with_reducible refine Below.alloc ?_ ?_ _) | (with_reducible refine Below.drew ?_) | (with_reducible refine below_drewN ?_ _) | (refine Below.trans ?_ (Below.mono ‹Below _ _ _› (by first | omega | (simp; done) | (simp; omega)))) | exact Below.refl _ _ | omega | (focus (simp; done)) | (focus (simp; omega))))⟩

end Go.Proofs.YtpckhpkbdanjoaaDoor

/-
  Plain words: a way with one hand at a wall. No program in sight.-/
namespace Go.Proofs.YtpckhpkbdanjoaaDoor
set_option linter.unusedVariables false
set_option linter.unusedSimpArgs false

/-- The turns in their order. -/
def trn (b : Bool) (i : Nat) : Nat := if b = true then (if i = 0 then 3 else i - 1) else (if i = 0 then 1 else if i = 1 then 0 else if i = 2 then 3 else 2)
theorem trn_lt (b : Bool) {i : Nat} (hi : i < 4) : trn b i < 4 := by
  have h : i = 0 ∨ i = 1 ∨ i = 2 ∨ i = 3 := by omega
  cases b <;> rcases h with rfl | rfl | rfl | rfl <;> decide
def hdI (b : Bool) (l i : Nat) : Nat := (l + trn b i) % 4
theorem hdI_lt (b : Bool) (l i : Nat) : hdI b l i < 4 := Nat.mod_lt _ (by omega)
/-- The direction chosen among the first k turns, or -1. -/
def hdJ (F : Nat → ByteArray) (n : Nat) (b : Bool) (p : Int × Int) (l : Nat) : Nat → Int
  | 0 => -1
  | k + 1 => if hdJ F n b p l k < 0 ∧ opP F n (stp p (hdI b l k)) = true then (hdI b l k : Nat) else hdJ F n b p l k
section
variable {F : Nat → ByteArray} {n : Nat} {b : Bool} {p : Int × Int} {l : Nat}
theorem hdJ_bd : ∀ k, -1 ≤ hdJ F n b p l k ∧ hdJ F n b p l k < 4
  | 0 => by simp [hdJ]
  | k + 1 => by
    rw [hdJ]
    split
    · have := hdI_lt b l k; omega
    · exact hdJ_bd k
theorem hdJ_no : ∀ {k : Nat}, (∀ i, i < k → opP F n (stp p (hdI b l i)) = false) → hdJ F n b p l k = -1
  | 0, _ => rfl
  | k + 1, h => by
    rw [hdJ, if_neg (by rw [h k (by omega)]; simp)]
    exact hdJ_no fun i hi => h i (by omega)
theorem hdJ_stay {k : Nat} (h : 0 ≤ hdJ F n b p l k) : ∀ {m : Nat}, k ≤ m → hdJ F n b p l m = hdJ F n b p l k
  | 0, hm => by obtain rfl : k = 0 := by omega
                rfl
  | m + 1, hm => by
    rcases Nat.lt_or_ge m k with h1 | h1
    · obtain rfl : k = m + 1 := by omega
      rfl
    · rw [hdJ, hdJ_stay h h1, if_neg (by omega)]
theorem hdJ_hit {j : Nat} (hj : j < 4) (h : ∀ i, i < j → opP F n (stp p (hdI b l i)) = false) (h1 : opP F n (stp p (hdI b l j)) = true) : hdJ F n b p l 4 = (hdI b l j : Nat) := by
  have e : hdJ F n b p l (j + 1) = (hdI b l j : Nat) := by
    rw [hdJ, if_pos ⟨by rw [hdJ_no h]; omega, h1⟩]
  rw [hdJ_stay (k := j + 1) (by omega) (by omega), e]
theorem hdJ_some : ∀ {k : Nat}, 0 ≤ hdJ F n b p l k → opP F n (stp p (hdJ F n b p l k).toNat) = true
  | 0, h => by simp [hdJ] at h
  | k + 1, h => by
    rw [hdJ] at h ⊢
    split at h
    · rename_i hc
      rw [if_pos hc]
      exact hc.2
    · rename_i hc
      rw [if_neg hc]
      exact hdJ_some h
end
/-- Where one is after t steps, and where one looks. -/
def hwS (F : Nat → ByteArray) (n : Nat) (b : Bool) (a : Int × Int) : Nat → (Int × Int) × Nat
  | 0 => (a, 0)
  | t + 1 => (stp (hwS F n b a t).1 (hdJ F n b (hwS F n b a t).1 (hwS F n b a t).2 4).toNat, (hdJ F n b (hwS F n b a t).1 (hwS F n b a t).2 4).toNat)
def hwP (F : Nat → ByteArray) (n : Nat) (b : Bool) (a : Int × Int) (t : Nat) : Int × Int := (hwS F n b a t).1
def hwL (F : Nat → ByteArray) (n : Nat) (b : Bool) (a : Int × Int) (t : Nat) : Nat := (hwS F n b a t).2
def hwJ (F : Nat → ByteArray) (n : Nat) (b : Bool) (a : Int × Int) (t : Nat) : Int := hdJ F n b (hwP F n b a t) (hwL F n b a t) 4
def hwCd (F : Nat → ByteArray) (n : Nat) (b : Bool) (a : Int × Int) (t : Nat) : Nat := 4 * ixF F (hwP F n b a t) + (hwJ F n b a t).toNat
/-- The steps that were made before. -/
def hwD (F : Nat → ByteArray) (n : Nat) (b : Bool) (a : Int × Int) : Nat → Nat → Bool
  | 0 => fun _ => false
  | t + 1 => orP (hwD F n b a t) (hwCd F n b a t)
/-- Here the way ends. -/
def hwX (F : Nat → ByteArray) (n : Nat) (b : Bool) (a : Int × Int) (t : Nat) : Bool := decide (hwJ F n b a t < 0) || hwD F n b a t (hwCd F n b a t)
def hwK (F : Nat → ByteArray) (n : Nat) (b : Bool) (a : Int × Int) : Nat := (fstI (hwX F n b a) (4 * (n * (F 0).size) + 1)).toNat
section
variable {F : Nat → ByteArray} {n : Nat} {b : Bool} {a : Int × Int} {t : Nat}
theorem hwP_zero : hwP F n b a 0 = a := rfl
theorem hwL_zero : hwL F n b a 0 = 0 := rfl
theorem hwP_next : hwP F n b a (t + 1) = stp (hwP F n b a t) (hwJ F n b a t).toNat := by simp only [hwP, hwS, hwJ, hwL]
theorem hwL_next : hwL F n b a (t + 1) = (hwJ F n b a t).toNat := by simp only [hwL, hwS, hwJ, hwP]
theorem hwJ_bd (t : Nat) : -1 ≤ hwJ F n b a t ∧ hwJ F n b a t < 4 := hdJ_bd 4
theorem hwL_lt : ∀ t, hwL F n b a t < 4
  | 0 => by rw [hwL_zero]; omega
  | t + 1 => by rw [hwL_next]; have := hwJ_bd (F := F) (n := n) (b := b) (a := a) t; omega
/-- As long as the way goes on it stays on open cells. -/
theorem hwP_open (ha : opP F n a = true) : ∀ {t : Nat}, (∀ s, s < t → hwX F n b a s = false) → opP F n (hwP F n b a t) = true
  | 0, _ => ha
  | t + 1, h => by
    have h1 := h t (by omega)
    simp only [hwX, Bool.or_eq_false_iff, decide_eq_false_iff_not] at h1
    have h2 : 0 ≤ hwJ F n b a t := by have := h1.1; omega
    obtain ⟨J, hJ⟩ : ∃ J, J = hwJ F n b a t := ⟨_, rfl⟩
    have h3 : 0 ≤ J → opP F n (stp (hwP F n b a t) J.toNat) = true := by
      rw [hJ, hwJ]
      exact fun h => hdJ_some h
    rw [← hJ] at h2
    rw [hwP_next, ← hJ]
    exact h3 h2
theorem hwC_lt (hp : opP F n (hwP F n b a t) = true) : hwCd F n b a t < 4 * (n * (F 0).size) := by
  have h1 := ix_lt hp
  have := hwJ_bd (F := F) (n := n) (b := b) (a := a) t
  unfold hwCd
  omega
theorem flt_or_len {p : Nat → Bool} {x n : Nat} (h : p x = false) (hx : x < n) : (flt (orP p x) n).length = (flt p n).length + 1 := by
  rw [flt_or h hx, flt_split p x n (by omega), List.length_append, List.length_append, List.length_cons]
  omega
theorem flt_none (n : Nat) : flt (fun _ => false) n = [] := by
  induction n with
  | zero => rfl
  | succ n ih => rw [flt, ih]; rfl
theorem hwD_len (ha : opP F n a = true) : ∀ {t : Nat}, (∀ s, s < t → hwX F n b a s = false) → (flt (hwD F n b a t) (4 * (n * (F 0).size))).length = t
  | 0, _ => by rw [hwD, flt_none]; rfl
  | t + 1, h => by
    have h1 := h t (by omega)
    simp only [hwX, Bool.or_eq_false_iff] at h1
    rw [hwD, flt_or_len h1.2 (hwC_lt (hwP_open ha fun s hs => h s (by omega))), hwD_len ha fun s hs => h s (by omega)]
/-- There are no more steps than places to look from. -/
theorem hw_le (ha : opP F n a = true) (h : ∀ s, s < t → hwX F n b a s = false) : t ≤ 4 * (n * (F 0).size) := by
  have h1 := hwD_len ha h
  have h2 := flt_len (hwD F n b a t) (4 * (n * (F 0).size))
  omega
theorem hwK_at (ha : opP F n a = true) (h : ∀ s, s < t → hwX F n b a s = false) (hx : hwX F n b a t = true) : hwK F n b a = t := by
  have h1 := hw_le ha h
  rw [hwK, fstI_at (k := t) (by omega) h hx]
  omega
theorem hwK_facts (ha : opP F n a = true) : hwK F n b a ≤ 4 * (n * (F 0).size) ∧ hwX F n b a (hwK F n b a) = true ∧ ∀ s, s < hwK F n b a → hwX F n b a s = false := by
  rcases fstI_cases (hwX F n b a) (4 * (n * (F 0).size) + 1) with ⟨h1, h2⟩ | ⟨k, h1, h2, h3, h4⟩
  · have := hw_le (b := b) ha (t := 4 * (n * (F 0).size) + 1) h2
    omega
  · have e : hwK F n b a = k := by rw [hwK, h2]; omega
    rw [e]
    exact ⟨by omega, h3, h4⟩
end

end Go.Proofs.YtpckhpkbdanjoaaDoor
