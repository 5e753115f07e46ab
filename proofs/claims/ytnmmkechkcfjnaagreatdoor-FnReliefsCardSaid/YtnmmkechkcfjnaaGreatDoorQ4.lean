/-
  Texts of this proof, one behind the other (part 4).
-/
import Derived.Test.YtnmmkechkcfjnaaGreatDoorQ3
import Derived.StillTailTactics
/-
  Walks: periods: one is valid; the order; which lists are periods.-/
namespace Go.Proofs.YtnmmkechkcfjnaaGreatDoor
set_option linter.unusedVariables false
set_option linter.unusedSimpArgs false
open Go.RowKit

set_option maxHeartbeats 800000 in
theorem isPeriod_any (s : ByteArray) (x y : Int) (w : World) (hs : s.size ≤ maxLen) :
    Calls Tryz.prog 45 #[.agg #[.string s, .int .i64 x, .int .i64 y]] w fun e w' => e = .returned (.bool (perB s x y)) ∧ Below w.heap.size w w' := by
  cases hc1_0 : nameB s with
  | false =>
    go_enter Tryz.func45, Tryz.ntmps45
    go_wp2_with (first | (go_at_call 33; refine (isName_any _ _ hs).mono ?_; rintro e w1 ⟨rfl, hd1⟩; obtain ⟨n1, rfl⟩ := hd1) | (go_at_call 31; refine (isMinute_any _ _).mono ?_; rintro e w' ⟨rfl, rfl⟩) | (go_at_call 32; refine (inside_any _ _ _ _).mono ?_; rintro e w' ⟨rfl, rfl⟩))
    go_ret
    exact ⟨ret_bool (by simp [perB, *]), (by repeat (first | (with_reducible exact Below.refl _ _) | (with_reducible refine below_ov ?_ ?_) | (with_reducible refine Below.setCell ?_ ?_ _) | (with_reducible refine Below.alloc ?_ ?_ _) | (with_reducible refine Below.drew ?_) | (with_reducible refine below_drewN ?_ _) | (refine Below.trans ?_ (Below.mono ‹Below _ _ _› (by first | omega | (simp; done) | (simp; omega)))) | exact Below.refl _ _ | omega | (focus (simp; done)) | (focus (simp; omega))))⟩
  | true =>
    cases hc1_1 : inB x 0 9999 with
    | false =>
      go_enter Tryz.func45, Tryz.ntmps45
      go_wp2_with (first | (go_at_call 33; refine (isName_any _ _ hs).mono ?_; rintro e w1 ⟨rfl, hd1⟩; obtain ⟨n1, rfl⟩ := hd1) | (go_at_call 31; refine (isMinute_any _ _).mono ?_; rintro e w' ⟨rfl, rfl⟩) | (go_at_call 32; refine (inside_any _ _ _ _).mono ?_; rintro e w' ⟨rfl, rfl⟩))
      go_ret
      exact ⟨ret_bool (by simp [perB, *]), (by repeat (first | (with_reducible exact Below.refl _ _) | (with_reducible refine below_ov ?_ ?_) | (with_reducible refine Below.setCell ?_ ?_ _) | (with_reducible refine Below.alloc ?_ ?_ _) | (with_reducible refine Below.drew ?_) | (with_reducible refine below_drewN ?_ _) | (refine Below.trans ?_ (Below.mono ‹Below _ _ _› (by first | omega | (simp; done) | (simp; omega)))) | exact Below.refl _ _ | omega | (focus (simp; done)) | (focus (simp; omega))))⟩
    | true =>
      obtain ⟨hc1_1l, hc1_1r⟩ := inB_iff.1 hc1_1
      cases hc1_2 : inB y 0 9999 with
      | false =>
        go_enter Tryz.func45, Tryz.ntmps45
        go_wp2_with (first | (go_at_call 33; refine (isName_any _ _ hs).mono ?_; rintro e w1 ⟨rfl, hd1⟩; obtain ⟨n1, rfl⟩ := hd1) | (go_at_call 31; refine (isMinute_any _ _).mono ?_; rintro e w' ⟨rfl, rfl⟩) | (go_at_call 32; refine (inside_any _ _ _ _).mono ?_; rintro e w' ⟨rfl, rfl⟩))
        go_ret
        exact ⟨ret_bool (by simp [perB, *]), (by repeat (first | (with_reducible exact Below.refl _ _) | (with_reducible refine below_ov ?_ ?_) | (with_reducible refine Below.setCell ?_ ?_ _) | (with_reducible refine Below.alloc ?_ ?_ _) | (with_reducible refine Below.drew ?_) | (with_reducible refine below_drewN ?_ _) | (refine Below.trans ?_ (Below.mono ‹Below _ _ _› (by first | omega | (simp; done) | (simp; omega)))) | exact Below.refl _ _ | omega | (focus (simp; done)) | (focus (simp; omega))))⟩
      | true =>
        obtain ⟨hc1_2l, hc1_2r⟩ := inB_iff.1 hc1_2
        go_enter Tryz.func45, Tryz.ntmps45
        go_wp2_with (first | (go_at_call 33; refine (isName_any _ _ hs).mono ?_; rintro e w1 ⟨rfl, hd1⟩; obtain ⟨n1, rfl⟩ := hd1) | (go_at_call 31; refine (isMinute_any _ _).mono ?_; rintro e w' ⟨rfl, rfl⟩) | (go_at_call 32; refine (inside_any _ _ _ _).mono ?_; rintro e w' ⟨rfl, rfl⟩))
        go_ret
        exact ⟨ret_bool (by simp [perB, *]), (by repeat (first | (with_reducible exact Below.refl _ _) | (with_reducible refine below_ov ?_ ?_) | (with_reducible refine Below.setCell ?_ ?_ _) | (with_reducible refine Below.alloc ?_ ?_ _) | (with_reducible refine Below.drew ?_) | (with_reducible refine below_drewN ?_ _) | (refine Below.trans ?_ (Below.mono ‹Below _ _ _› (by first | omega | (simp; done) | (simp; omega)))) | exact Below.refl _ _ | omega | (focus (simp; done)) | (focus (simp; omega))))⟩
set_option maxHeartbeats 800000 in
theorem rfOne_any (s : ByteArray) (x y : Int) (w : World) (hs : s.size ≤ maxLen) :
    Calls Tryz.prog 51 #[.agg #[.string s, .int .i64 x, .int .i64 y]] w fun e w' => e = .returned (.bool (perB s x y)) ∧ Below w.heap.size w w' := by
  cases hc2_0 : nameB s with
  | false =>
    go_enter Tryz.func51, Tryz.ntmps51
    go_wp2_with (first | (go_at_call 38; refine (apName_any _ _ hs).mono ?_; rintro e w1 ⟨rfl, hd1⟩; obtain ⟨n1, rfl⟩ := hd1) | (go_at_call 55; refine (rfMinute_any _ _).mono ?_; rintro e w' ⟨rfl, rfl⟩) | (go_at_call 56; refine (l1In_any _ _ _ _).mono ?_; rintro e w' ⟨rfl, rfl⟩))
    go_ret
    exact ⟨ret_bool (by simp [perB, *]), (by repeat (first | (with_reducible exact Below.refl _ _) | (with_reducible refine below_ov ?_ ?_) | (with_reducible refine Below.setCell ?_ ?_ _) | (with_reducible refine Below.alloc ?_ ?_ _) | (with_reducible refine Below.drew ?_) | (with_reducible refine below_drewN ?_ _) | (refine Below.trans ?_ (Below.mono ‹Below _ _ _› (by first | omega | (simp; done) | (simp; omega)))) | exact Below.refl _ _ | omega | (focus (simp; done)) | (focus (simp; omega))))⟩
  | true =>
    cases hc2_1 : inB x 0 9999 with
    | false =>
      go_enter Tryz.func51, Tryz.ntmps51
      go_wp2_with (first | (go_at_call 38; refine (apName_any _ _ hs).mono ?_; rintro e w1 ⟨rfl, hd1⟩; obtain ⟨n1, rfl⟩ := hd1) | (go_at_call 55; refine (rfMinute_any _ _).mono ?_; rintro e w' ⟨rfl, rfl⟩) | (go_at_call 56; refine (l1In_any _ _ _ _).mono ?_; rintro e w' ⟨rfl, rfl⟩))
      go_ret
      exact ⟨ret_bool (by simp [perB, *]), (by repeat (first | (with_reducible exact Below.refl _ _) | (with_reducible refine below_ov ?_ ?_) | (with_reducible refine Below.setCell ?_ ?_ _) | (with_reducible refine Below.alloc ?_ ?_ _) | (with_reducible refine Below.drew ?_) | (with_reducible refine below_drewN ?_ _) | (refine Below.trans ?_ (Below.mono ‹Below _ _ _› (by first | omega | (simp; done) | (simp; omega)))) | exact Below.refl _ _ | omega | (focus (simp; done)) | (focus (simp; omega))))⟩
    | true =>
      obtain ⟨hc2_1l, hc2_1r⟩ := inB_iff.1 hc2_1
      cases hc2_2 : inB y 0 9999 with
      | false =>
        go_enter Tryz.func51, Tryz.ntmps51
        go_wp2_with (first | (go_at_call 38; refine (apName_any _ _ hs).mono ?_; rintro e w1 ⟨rfl, hd1⟩; obtain ⟨n1, rfl⟩ := hd1) | (go_at_call 55; refine (rfMinute_any _ _).mono ?_; rintro e w' ⟨rfl, rfl⟩) | (go_at_call 56; refine (l1In_any _ _ _ _).mono ?_; rintro e w' ⟨rfl, rfl⟩))
        go_ret
        exact ⟨ret_bool (by simp [perB, *]), (by repeat (first | (with_reducible exact Below.refl _ _) | (with_reducible refine below_ov ?_ ?_) | (with_reducible refine Below.setCell ?_ ?_ _) | (with_reducible refine Below.alloc ?_ ?_ _) | (with_reducible refine Below.drew ?_) | (with_reducible refine below_drewN ?_ _) | (refine Below.trans ?_ (Below.mono ‹Below _ _ _› (by first | omega | (simp; done) | (simp; omega)))) | exact Below.refl _ _ | omega | (focus (simp; done)) | (focus (simp; omega))))⟩
      | true =>
        obtain ⟨hc2_2l, hc2_2r⟩ := inB_iff.1 hc2_2
        go_enter Tryz.func51, Tryz.ntmps51
        go_wp2_with (first | (go_at_call 38; refine (apName_any _ _ hs).mono ?_; rintro e w1 ⟨rfl, hd1⟩; obtain ⟨n1, rfl⟩ := hd1) | (go_at_call 55; refine (rfMinute_any _ _).mono ?_; rintro e w' ⟨rfl, rfl⟩) | (go_at_call 56; refine (l1In_any _ _ _ _).mono ?_; rintro e w' ⟨rfl, rfl⟩))
        go_ret
        exact ⟨ret_bool (by simp [perB, *]), (by repeat (first | (with_reducible exact Below.refl _ _) | (with_reducible refine below_ov ?_ ?_) | (with_reducible refine Below.setCell ?_ ?_ _) | (with_reducible refine Below.alloc ?_ ?_ _) | (with_reducible refine Below.drew ?_) | (with_reducible refine below_drewN ?_ _) | (refine Below.trans ?_ (Below.mono ‹Below _ _ _› (by first | omega | (simp; done) | (simp; omega)))) | exact Below.refl _ _ | omega | (focus (simp; done)) | (focus (simp; omega))))⟩
set_option maxHeartbeats 800000 in
theorem rfBefore_any (s : ByteArray) (x y : Int) (s' : ByteArray) (x' y' : Int) (w : World) :
    Calls Tryz.prog 52 #[.agg #[.string s, .int .i64 x, .int .i64 y], .agg #[.string s', .int .i64 x', .int .i64 y']] w fun e w' => e = .returned (.bool (befB s x s' x')) ∧ Below w.heap.size w w' := by
  cases h1 : decide (x < x') with
  | true =>
    have HF : Hid (befB s x s' x' = true) := by show _ = _; simp [befB, h1]
    go_enter Tryz.func52, Tryz.ntmps52
    go_wp2_with fail
    go_ret
    exact ⟨ret_bool HF.out.symm, (by repeat (first | (with_reducible exact Below.refl _ _) | (with_reducible refine below_ov ?_ ?_) | (with_reducible refine Below.setCell ?_ ?_ _) | (with_reducible refine Below.alloc ?_ ?_ _) | (with_reducible refine Below.drew ?_) | (with_reducible refine below_drewN ?_ _) | (refine Below.trans ?_ (Below.mono ‹Below _ _ _› (by first | omega | (simp; done) | (simp; omega)))) | exact Below.refl _ _ | omega | (focus (simp; done)) | (focus (simp; omega))))⟩
  | false =>
    cases h2 : (x == x') with
    | false =>
      have HF : Hid (befB s x s' x' = false) := by show _ = _; simp at h2; simp [befB, h1, h2]
      go_enter Tryz.func52, Tryz.ntmps52
      go_wp2_with fail
      go_ret
      exact ⟨ret_bool HF.out.symm, (by repeat (first | (with_reducible exact Below.refl _ _) | (with_reducible refine below_ov ?_ ?_) | (with_reducible refine Below.setCell ?_ ?_ _) | (with_reducible refine Below.alloc ?_ ?_ _) | (with_reducible refine Below.drew ?_) | (with_reducible refine below_drewN ?_ _) | (refine Below.trans ?_ (Below.mono ‹Below _ _ _› (by first | omega | (simp; done) | (simp; omega)))) | exact Below.refl _ _ | omega | (focus (simp; done)) | (focus (simp; omega))))⟩
    | true =>
      have HF : Hid (befB s x s' x' = Op.bytesLess s.toList s'.toList) := by show _ = _; simp at h2; simp [befB, h1, h2, ltS]
      go_enter Tryz.func52, Tryz.ntmps52
      go_wp2_with fail
      go_ret
      exact ⟨ret_bool HF.out.symm, (by repeat (first | (with_reducible exact Below.refl _ _) | (with_reducible refine below_ov ?_ ?_) | (with_reducible refine Below.setCell ?_ ?_ _) | (with_reducible refine Below.alloc ?_ ?_ _) | (with_reducible refine Below.drew ?_) | (with_reducible refine below_drewN ?_ _) | (refine Below.trans ?_ (Below.mono ‹Below _ _ _› (by first | omega | (simp; done) | (simp; omega)))) | exact Below.refl _ _ | omega | (focus (simp; done)) | (focus (simp; omega))))⟩
set_option maxHeartbeats 800000 in
theorem isNaNI_any (x : Int) (w : World) :
    Calls Tryz.prog 79 #[.int .i64 x] w fun e w' => e = .returned (.bool false) ∧ w = w' := by
  go_enter Tryz.func79, Tryz.ntmps79
  go_wp2_with fail
  go_ret
  exact ⟨ret_bool (by simp), rfl⟩
set_option maxHeartbeats 800000 in
theorem isNaNS_any (x : ByteArray) (w : World) :
    Calls Tryz.prog 80 #[.string x] w fun e w' => e = .returned (.bool false) ∧ w = w' := by
  go_enter Tryz.func80, Tryz.ntmps80
  go_wp2_with fail
  go_ret
  exact ⟨ret_bool (by simp), rfl⟩
set_option maxHeartbeats 800000 in
theorem CompareI_any (x y : Int) (w : World) :
    Calls Tryz.prog 71 #[.int .i64 x, .int .i64 y] w fun e w' => e = .returned (.int .i64 (cmpI x y)) ∧ w = w' := by
  rcases Int.lt_trichotomy x y with h | h | h
  · have HE : Hid (cmpI x y = -1) := by show _ = _; rw [cmpI, if_pos h]
    go_enter Tryz.func71, Tryz.ntmps71
    go_wp2_with (go_at_call 79; refine (isNaNI_any _ _).mono ?_; rintro e w' ⟨rfl, rfl⟩)
    go_ret
    exact ⟨ret_int HE.out.symm, rfl⟩
  · have HE : Hid (cmpI x y = 0) := by show _ = _; rw [cmpI, if_neg (by omega), if_neg (by omega)]
    have h1 : decide (x < y) = false := by simp; omega
    have h2 : decide (x > y) = false := by simp; omega
    clear h
    go_enter Tryz.func71, Tryz.ntmps71
    go_wp2_with (go_at_call 79; refine (isNaNI_any _ _).mono ?_; rintro e w' ⟨rfl, rfl⟩)
    go_ret
    exact ⟨ret_int HE.out.symm, rfl⟩
  · have HE : Hid (cmpI x y = 1) := by show _ = _; rw [cmpI, if_neg (by omega), if_pos h]
    have h1 : decide (x < y) = false := by simp; omega
    go_enter Tryz.func71, Tryz.ntmps71
    go_wp2_with (go_at_call 79; refine (isNaNI_any _ _).mono ?_; rintro e w' ⟨rfl, rfl⟩)
    go_ret
    exact ⟨ret_int HE.out.symm, rfl⟩
set_option maxHeartbeats 800000 in
theorem CompareS_any (x y : ByteArray) (w : World) :
    Calls Tryz.prog 72 #[.string x, .string y] w fun e w' => e = .returned (.int .i64 (cmpS x y)) ∧ w = w' := by
  cases h1 : Op.bytesLess x.toList y.toList with
  | true =>
    have HE : Hid (cmpS x y = -1) := by show _ = _; rw [cmpS, if_pos (show ltS x y = true from h1)]
    go_enter Tryz.func72, Tryz.ntmps72
    go_wp2_with (go_at_call 80; refine (isNaNS_any _ _).mono ?_; rintro e w' ⟨rfl, rfl⟩)
    go_ret
    exact ⟨ret_int HE.out.symm, rfl⟩
  | false =>
    cases h2 : (x.toList == y.toList) with
    | true =>
      have HE : Hid (cmpS x y = 0) := by show _ = _; rw [str_beq] at h2; rw [cmpS, if_neg (by simp [ltS, h1]), if_pos (of_decide_eq_true h2)]
      go_enter Tryz.func72, Tryz.ntmps72
      go_wp2_with (go_at_call 80; refine (isNaNS_any _ _).mono ?_; rintro e w' ⟨rfl, rfl⟩)
      go_ret
      exact ⟨ret_int HE.out.symm, rfl⟩
    | false =>
      have HE : Hid (cmpS x y = 1) := by show _ = _; rw [str_beq] at h2; rw [cmpS, if_neg (by simp [ltS, h1]), if_neg (of_decide_eq_false h2)]
      go_enter Tryz.func72, Tryz.ntmps72
      go_wp2_with (go_at_call 80; refine (isNaNS_any _ _).mono ?_; rintro e w' ⟨rfl, rfl⟩)
      go_ret
      exact ⟨ret_int HE.out.symm, rfl⟩
def orI (x y : Int) : Int := if x = 0 then y else x
theorem call_flip {P : Program} {f : FuncId} {args : Array Value} {w : World} {v : Value} (h : Calls P f args w fun e w' => e = .returned v ∧ w = w') : Calls P f args w fun e w' => e = .returned v ∧ w' = w := h.mono fun _ _ ⟨h1, h2⟩ => ⟨h1, h2.symm⟩
set_option maxRecDepth 100000 in
set_option maxHeartbeats 1600000 in
theorem Or2_any (x y : Int) (g : Nat) (w : World) (h0 : w.cell? ⟨g, 0, none⟩ = some (.int .i64 x)) (h1 : w.cell? ⟨g, 1, none⟩ = some (.int .i64 y)) (hl : g < w.heap.size) :
    Calls Tryz.prog 70 #[.slice (some ⟨g, 0, none⟩) 2 2] w fun e w' => e = .returned (.int .i64 (orI x y)) ∧ Below w.heap.size w w' := by
  go_enter Tryz.func70, Tryz.ntmps70
  go_wp2_with fail
  go_loopw [8] (fun i wr => ∃ k : Nat, k ≤ 2 ∧ i = .int .i64 k ∧ Hid (1 ≤ k → x = 0) ∧ Hid (2 ≤ k → y = 0) ∧ Below w.heap.size w wr) (fun i _ => 2 - (intOf i).toNat)
  case atStart => exact ⟨0, by omega, rfl, fun h => by omega, fun h => by omega, Below.refl _ _⟩
  case round =>
    obtain ⟨k, hk, rfl, e0, e1, hb⟩ := hrel
    have d0 := (hb.cell (p := ⟨g, 0, none⟩) hl).trans h0
    have d1 := (hb.cell (p := ⟨g, 1, none⟩) hl).trans h1
    clear h0 h1
    rcases (by omega : k = 0 ∨ k = 1 ∨ k = 2) with rfl | rfl | rfl
    · cases hx : (x != 0) with
      | true =>
        have HX : Hid (orI x y = x) := by show _ = _; rw [orI, if_neg (by simpa using hx)]
        go_wp2_with fail
        go_ret
        exact ⟨ret_int HX.out.symm, hb⟩
      | false =>
        have HX : Hid (x = 0) := by show _ = _; simpa using hx
        go_wp2_with fail
        go_roundw
        case rel => exact ⟨1, by omega, by go_num, fun _ => HX.out, fun h => by omega, hb⟩
        case measure => simp [intOf]
    · have HX : Hid (orI x y = y) := by show _ = _; rw [orI, if_pos (e0.out (by omega))]
      cases hy : (y != 0) with
      | true =>
        go_wp2_with fail
        go_ret
        exact ⟨ret_int HX.out.symm, hb⟩
      | false =>
        have HY : Hid (y = 0) := by show _ = _; simpa using hy
        go_wp2_with fail
        go_roundw
        case rel => exact ⟨2, by omega, by go_num, fun _ => e0.out (by omega), fun _ => HY.out, hb⟩
        case measure => simp [intOf]
    · have HX : Hid (orI x y = 0) := by show _ = _; rw [orI, if_pos (e0.out (by omega))]; exact e1.out (by omega)
      go_wp2_with fail
      go_ret
      exact ⟨ret_int HX.out.symm, hb⟩
set_option maxRecDepth 100000 in
set_option maxHeartbeats 1600000 in
theorem comparePeriods_any (s : ByteArray) (x y : Int) (s' : ByteArray) (x' y' : Int) (w : World) :
    Calls Tryz.prog 47 #[.agg #[.string s, .int .i64 x, .int .i64 y], .agg #[.string s', .int .i64 x', .int .i64 y']] w fun e w' => e = .returned (.int .i64 (cmpP s x s' x')) ∧ Below w.heap.size w w' := by
  go_enter Tryz.func47, Tryz.ntmps47
  have HE : Hid (orI (cmpI x x') (cmpS s s') = cmpP s x s' x') := by
    show _ = _
    unfold orI cmpP
    by_cases h : cmpI x x' = 0 <;> simp [h]
  go_wp2_with fail
  obtain ⟨W, hW⟩ : ∃ W : World, W = World.drew ((w.alloc (.cells #[.string s, .int .i64 x, .int .i64 y] 38)).alloc (.cells #[.string s', .int .i64 x', .int .i64 y'] 38)) := ⟨_, rfl⟩
  have f0 : W.cell? ⟨w.heap.size, 0, none⟩ = some (.string s) := by rw [hW]; simp [go_sem]
  have f1 : W.cell? ⟨w.heap.size, 1, none⟩ = some (.int .i64 x) := by rw [hW]; simp [go_sem]
  have g0 : W.cell? ⟨w.heap.size + 1, 0, none⟩ = some (.string s') := by rw [hW]; simp [go_sem]
  have g1 : W.cell? ⟨w.heap.size + 1, 1, none⟩ = some (.int .i64 x') := by rw [hW]; simp [go_sem]
  have hbW : Below w.heap.size w W := by rw [hW]; exact (by repeat (first | (with_reducible exact Below.refl _ _) | (with_reducible refine below_ov ?_ ?_) | (with_reducible refine Below.setCell ?_ ?_ _) | (with_reducible refine Below.alloc ?_ ?_ _) | (with_reducible refine Below.drew ?_) | (with_reducible refine below_drewN ?_ _) | (refine Below.trans ?_ (Below.mono ‹Below _ _ _› (by first | omega | (simp; done) | (simp; omega)))) | exact Below.refl _ _ | omega | (focus (simp; done)) | (focus (simp; omega))))
  refine wp_region_still_tail 10 (by kernel_rfl) (by kernel_rfl) ?_
  simp only [List.take_succ_cons, List.take_zero, List.drop_succ_cons, List.drop_zero]
  change wpStill _ _ (World.drew ((w.alloc (.cells #[.string s, .int .i64 x, .int .i64 y] 38)).alloc (.cells #[.string s', .int .i64 x', .int .i64 y'] 38))) (fun a' => wpList _ _ _ _ a' (World.drew ((w.alloc (.cells #[.string s, .int .i64 x, .int .i64 y] 38)).alloc (.cells #[.string s', .int .i64 x', .int .i64 y'] 38)))) _ _
  rw [← hW]
  clear hW
  iterate 4 still_step
  still_call (call_flip (CompareI_any _ _ _))
  iterate 4 still_step
  still_call (call_flip (CompareS_any _ _ _))
  refine wpStill_nil ?_
  go_wp2_with fail
  refine (Or2_any (cmpI x x') (cmpS s s') W.heap.size _ (World.cell?_alloc_new _ _ _ _) (World.cell?_alloc_new _ _ _ _) (by simp)).mono ?_
  rintro e w5 ⟨rfl, hb5⟩
  rw [HE.out]
  have hz5 := hb5.size
  have hzW := hbW.size
  go_wp2_with fail
  go_ret
  exact ⟨rfl, (by repeat (first | (with_reducible exact Below.refl _ _) | (with_reducible refine below_ov ?_ ?_) | (with_reducible refine Below.setCell ?_ ?_ _) | (with_reducible refine Below.alloc ?_ ?_ _) | (with_reducible refine Below.drew ?_) | (with_reducible refine below_drewN ?_ _) | (refine Below.trans ?_ (Below.mono ‹Below _ _ _› (by first | omega | (simp; done) | (simp; omega)))) | exact Below.refl _ _ | omega | (focus (simp; done)) | (focus (simp; omega))))⟩

end Go.Proofs.YtnmmkechkcfjnaaGreatDoor
