/-
  Texts of this proof, one behind the other (part 12).
-/
import Derived.Test.YtpckhpkbdanjoaaDoorQ11
/-
  Walks: the laws' marks in a slice of Cell (printed by gen_mark.py).-/
namespace Go.Proofs.YtpckhpkbdanjoaaDoor
set_option linter.unusedVariables false
set_option linter.unusedSimpArgs false
open Go.RowKit

/-- The marks, a cell each. -/
def mkCell (q : Int) : Nat → Value := fun o => if o % 2 = 0 then .int .i64 (q + (o : Nat)) else .int .i64 (q + (o : Nat))
theorem mkCell_0 (q : Int) (k : Nat) : mkCell q (k * 2) = .int .i64 (q + (k : Int) * 2) := by
  unfold mkCell
  rw [if_pos (by omega)]
  congr 1 <;> (first | rfl | (push_cast; omega) | omega)
theorem mkCell_1 (q : Int) (k : Nat) : mkCell q (k * 2 + 1) = .int .i64 (q + (k : Int) * 2 + 1) := by
  unfold mkCell
  rw [if_neg (by omega)]
  congr 1 <;> (first | rfl | (push_cast; omega) | omega)
set_option maxRecDepth 100000 in
set_option maxHeartbeats 1600000 in
theorem markCellS_any (q : Int) (n lo hi K : Nat) (v : Value) (cc : Nat → Value) (w : World) (hv : OwnL w lo hi 38 2 v n K cc) (hhi : hi ≤ w.heap.size) (hn : n ≤ 1048576) (hq : 0 ≤ q) (hq' : q ≤ 4503599627370496) :
    Calls Tryd.prog 18 #[v, .int .i64 q] w fun e w' => e = .returned (.int .i64 (q + (n : Int) * 2)) ∧ OwnL w' lo hi 38 2 v n (n * 2) (mkCell q) ∧ Only lo hi w w' := by
  obtain ⟨A, cap, rfl, hcap, hA⟩ := hv.open_
  have hv0 := (hv.less (Nat.zero_le _)).congr (cc' := mkCell q) (fun o h => absurd h (Nat.not_lt_zero _))
  clear hv
  go_enter Tryd.func18, Tryd.ntmps18
  go_wp2_with fail
  go_loopw [1, 5] (fun c i wr => ∃ k : Nat, k ≤ n ∧ i = .int .i64 k ∧ c = .int .i64 (q + (k : Int) * 2) ∧ OwnL wr lo hi 38 2 (.slice A n cap) n (k * 2) (mkCell q) ∧ Only lo hi w wr) (fun _ i _ => n - (intOf i).toNat)
  case atStart => exact ⟨0, by omega, rfl, by simp, by simpa using hv0, Only.refl _ _ _⟩
  case round =>
    obtain ⟨k, hk, rfl, rfl, ho, hb⟩ := hrel
    have hzr := hb.size
    by_cases hkn : k < n
    · obtain ⟨g, rfl, g1, g2⟩ := hA (by omega)
      have ho0 := ho
      obtain ⟨⟨u0, hu0⟩, hf0, _⟩ := ho0.cell (by omega) (o := k * 2) (by omega)
      have hs0 := ho0.store (by omega)
      rw [mkCell_0] at hs0
      have ho1 := hs0
      obtain ⟨⟨u1, hu1⟩, hf1, _⟩ := ho1.cell (by omega) (o := k * 2 + 1) (by omega)
      have hs1 := ho1.store (by omega)
      rw [mkCell_1] at hs1
      go_wp2_with fail
      go_roundw
      case rel => exact ⟨k + 1, by omega, by go_num, by congr 1; (try push_cast); omega, by rw [show (k + 1) * 2 = k * 2 + 1 + 1 by omega]; exact hs1, ((hb.setCell g1 g2 _).setCell g1 g2 _)⟩
      case measure => simp [intOf]; omega
    · obtain rfl : k = n := by omega
      go_wp2_with fail
      go_ret
      exact ⟨rfl, ho, hb⟩

set_option maxRecDepth 100000 in
set_option maxHeartbeats 1600000 in
theorem heldCellS_same (q : Int) (n lo hi : Nat) (v : Value) (w : World) (hv : OwnL w lo hi 38 2 v n (n * 2) (mkCell q)) (hhi : hi ≤ w.heap.size) (hn : n ≤ 1048576) (hq : 0 ≤ q) (hq' : q ≤ 4503599627370496) :
    Calls Tryd.prog 19 #[v, .int .i64 q] w fun e w' => e = .returned (.int .i64 (q + (n : Int) * 2)) ∧ Below w.heap.size w w' := by
  obtain ⟨A, cap, rfl, hcap, hA⟩ := hv.open_
  go_enter Tryd.func19, Tryd.ntmps19
  go_wp2_with fail
  go_loopw [1, 5] (fun c i wr => ∃ k : Nat, k ≤ n ∧ i = .int .i64 k ∧ c = .int .i64 (q + (k : Int) * 2) ∧ Below w.heap.size w wr) (fun _ i _ => n - (intOf i).toNat)
  case atStart => exact ⟨0, by omega, rfl, by simp, Below.refl _ _⟩
  case round =>
    obtain ⟨k, hk, rfl, rfl, hb⟩ := hrel
    have hzr := hb.size
    have hv' := hv.below hb hhi
    by_cases hkn : k < n
    · obtain ⟨g, rfl, g1, g2⟩ := hA (by omega)
      have l0 : g < wr.heap.size := by omega
      obtain ⟨_, _, c0⟩ := hv'.cell (by omega) (o := k * 2) (by omega)
      replace c0 := c0 (by omega)
      rw [mkCell_0] at c0
      obtain ⟨_, _, c1⟩ := hv'.cell (by omega) (o := k * 2 + 1) (by omega)
      replace c1 := c1 (by omega)
      rw [mkCell_1] at c1
      go_wp2_with fail
      go_roundw
      case rel => exact ⟨k + 1, by omega, by go_num, by congr 1; (try push_cast); omega, (by repeat (first | (with_reducible exact Below.refl _ _) | (with_reducible refine below_ov ?_ ?_) | (with_reducible refine Below.setCell ?_ ?_ _) | (with_reducible refine Below.alloc ?_ ?_ _) | (with_reducible refine Below.drew ?_) | (with_reducible refine below_drewN ?_ _) | (refine Below.trans ?_ (Below.mono ‹Below _ _ _› (by first | omega | (simp; done) | (simp; omega)))) | exact Below.refl _ _ | omega | (focus (simp; done)) | (focus (simp; omega))))⟩
      case measure => simp [intOf]; omega
    · obtain rfl : k = n := by omega
      go_wp2_with fail
      go_ret
      exact ⟨rfl, hb⟩

end Go.Proofs.YtpckhpkbdanjoaaDoor

/-
  An argument that is a list of Cell, opened (printed by gen_data.py).-/
namespace Go.Proofs.YtpckhpkbdanjoaaDoor
set_option linter.unusedVariables false
set_option linter.unusedSimpArgs false
open Go.ChangeShapes Go.WideShapes Go.ChangeAt Go.RowKit Go.Joins Go.Deep

theorem Tryd.cells36 : Tryd.prog.cellsOf 36 = 2 := by kernel_rfl
set_option maxRecDepth 100000 in
theorem openCellT {H : Type} {enc : TypeId × Value → H} {W : World} {spare : Nat → Bool} {held : Bool} {v : Value} {d : DataW H} {ps : List MemPlace} {fuel : Nat}
    (h : DataW.trod enc Tryd.prog W 0 spare held fuel 23 [v] = some (d, ps)) :
    ∃ (A : Option Addr) (n cap : Nat) (f0 : Nat → Int) (f1 : Nat → Int), v = .slice A n cap ∧ n ≤ cap ∧ cap ≤ maxLen ∧ SlA W 0 W.heap.size 2 A n (iiC f0 f1) := by
  obtain ⟨A, n, cap, V, rfl, h1, h2, h3, h4⟩ := open_cellsT Tryd.underlying23 Tryd.cells36 (by omega) h
  refine ⟨A, n, cap, fun i => intOf (V i 0), fun i => intOf (V i 1), rfl, h1, h2, h3.congr fun i j hi hj => ?_⟩
  obtain ⟨cs', k, y, hl, hc, hy⟩ := h4 i hi
  match j, hj with
  | 0, hj =>
    obtain ⟨_, _, hz⟩ := field_of Tryd.underlying36 (by kernel_rfl) hy (j := 0) rfl (hc 0 hj)
    exact (int_cell Tryd.underlying3 hz).1
  | 1, hj =>
    obtain ⟨_, _, hz⟩ := field_of Tryd.underlying36 (by kernel_rfl) hy (j := 1) rfl (hc 1 hj)
    exact (int_cell Tryd.underlying3 hz).1
set_option maxRecDepth 100000 in
theorem openCell {H : Type} {enc : TypeId × Value → H} {W : World} {spare : Nat → Bool} {held : Bool} {v : Value} {d : DataW H} {ps : List MemPlace} {r : Reach} {b0 : Nat}
    (hv : Value.okWide Tryd.prog W r b0 23 v) (h : DataW.Trod enc Tryd.prog W 0 spare held 23 v d ps) :
    ∃ (A : Option Addr) (n cap : Nat) (f0 : Nat → Int) (f1 : Nat → Int), v = .slice A n cap ∧ n ≤ cap ∧ cap ≤ maxLen ∧ SlA W 0 W.heap.size 2 A n (iiC f0 f1) := by
  obtain ⟨A, n, cap, rfl⟩ := okWide_slice Tryd.underlying23 hv
  obtain ⟨fuel, hf⟩ := h
  exact openCellT (show DataW.trod enc Tryd.prog W 0 spare held fuel 23 [.slice A n cap] = some (d, ps) from hf)

end Go.Proofs.YtpckhpkbdanjoaaDoor
