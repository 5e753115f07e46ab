/-
  Texts of this proof, one behind the other (part 5).
-/
import Derived.Test.YtnfhgnibjebmlaaQ4
import Derived.Laws.OwnMore
/-
  Walks: teams: the exported functions on one team.-/
namespace Go.Proofs.Ytnfhgnibjebmlaa
set_option linter.unusedVariables false
set_option linter.unusedSimpArgs false
open Go.RowKit

def sTurn : ByteArray := ⟨#[116, 117, 114, 110]⟩
def sSoon : ByteArray := ⟨#[115, 111, 111, 110]⟩
def sOk : ByteArray := ⟨#[111, 107]⟩
def stB (T : Tm) (k : Int) : ByteArray := if tmTOk T = false ∨ tmTN T < k then sTurn else if tmTN T - k ≤ 5 then sSoon else sOk
theorem ret_sb {a c : ByteArray} {b d : Bool} (h : a = c) (h' : b = d) : Ending.returned (.tuple #[.string a, .bool b]) = .returned (.tuple #[.string c, .bool d]) := by rw [h, h']
theorem ret_str {a b : ByteArray} (h : a = b) : Ending.returned (.string a) = .returned (.string b) := by rw [h]
set_option maxRecDepth 100000 in
set_option maxHeartbeats 1600000 in
theorem TurnMinute_spec (T : Tm) (lo hi : Nat) (vc : Value) (w : World) (hs : Sl w lo hi 2 vc T.n (iiC T.m T.b)) (hhi : hi ≤ w.heap.size) (hf : T.fits) :
    Calls Try.prog 23 #[.agg #[.string T.s, .int .i64 T.v, .int .i64 T.y, vc]] w fun e w' => e = .returned (.tuple #[.int .i64 (turnNN T), .bool (turnOk T)]) ∧ Below w.heap.size w w' := by
  cases hB : tmB T with
  | false =>
    have HE : Hid (turnNN T = 0 ∧ turnOk T = false) := ⟨by rw [turnNN, hB]; rfl, by rw [turnOk, hB]; rfl⟩
    go_enter Try.func23, Try.ntmps23
    go_wp2_with (go_at_call 41; refine (enOne_any T lo hi vc _ (hs.below (B := w.heap.size) (by repeat (first | (with_reducible exact Below.refl _ _) | (with_reducible refine below_ov ?_ ?_) | (with_reducible refine Below.setCell ?_ ?_ _) | (with_reducible refine Below.alloc ?_ ?_ _) | (with_reducible refine Below.drew ?_) | (with_reducible refine below_drewN ?_ _) | (refine Below.trans ?_ (Below.mono ‹Below _ _ _› (by first | omega | (simp; done) | (simp; omega)))) | exact Below.refl _ _ | omega | (focus (simp; done)) | (focus (simp; omega)))) hhi) (by first | omega | (simp; done) | (simp; omega)) hf).mono ?_; rintro e w1 ⟨rfl, hb1⟩; have hz1 := hb1.size; (try (simp at hz1)); obtain ⟨hcw1, hfw1⟩ := bcell hb1; (try (have hy1 : w.heap.size < w1.heap.size := by omega)); (try (have hyy1 : w.heap.size + 1 < w1.heap.size := by omega)); (try (have hyyy1 : w.heap.size + 1 + 1 < w1.heap.size := by omega)))
    go_ret2
    exact ⟨ret_ib HE.out.1.symm HE.out.2.symm, (by repeat (first | (with_reducible exact Below.refl _ _) | (with_reducible refine below_ov ?_ ?_) | (with_reducible refine Below.setCell ?_ ?_ _) | (with_reducible refine Below.alloc ?_ ?_ _) | (with_reducible refine Below.drew ?_) | (with_reducible refine below_drewN ?_ _) | (refine Below.trans ?_ (Below.mono ‹Below _ _ _› (by first | omega | (simp; done) | (simp; omega)))) | exact Below.refl _ _ | omega | (focus (simp; done)) | (focus (simp; omega))))⟩
  | true =>
    have HE : Hid (turnNN T = tmTN T ∧ turnOk T = tmTOk T) := ⟨by rw [turnNN, hB]; rfl, by rw [turnOk, hB]; rfl⟩
    have HB := hide hB
    go_enter Try.func23, Try.ntmps23
    go_wp2_with (go_at_call 41; refine (enOne_any T lo hi vc _ (hs.below (B := w.heap.size) (by repeat (first | (with_reducible exact Below.refl _ _) | (with_reducible refine below_ov ?_ ?_) | (with_reducible refine Below.setCell ?_ ?_ _) | (with_reducible refine Below.alloc ?_ ?_ _) | (with_reducible refine Below.drew ?_) | (with_reducible refine below_drewN ?_ _) | (refine Below.trans ?_ (Below.mono ‹Below _ _ _› (by first | omega | (simp; done) | (simp; omega)))) | exact Below.refl _ _ | omega | (focus (simp; done)) | (focus (simp; omega)))) hhi) (by first | omega | (simp; done) | (simp; omega)) hf).mono ?_; rintro e w1 ⟨rfl, hb1⟩; have hz1 := hb1.size; (try (simp at hz1)); obtain ⟨hcw1, hfw1⟩ := bcell hb1; (try (have hy1 : w.heap.size < w1.heap.size := by omega)); (try (have hyy1 : w.heap.size + 1 < w1.heap.size := by omega)); (try (have hyyy1 : w.heap.size + 1 + 1 < w1.heap.size := by omega)))
    refine (enTurn_any T lo hi vc _ (hs.below (B := w.heap.size) (by repeat (first | (with_reducible exact Below.refl _ _) | (with_reducible refine below_ov ?_ ?_) | (with_reducible refine Below.setCell ?_ ?_ _) | (with_reducible refine Below.alloc ?_ ?_ _) | (with_reducible refine Below.drew ?_) | (with_reducible refine below_drewN ?_ _) | (refine Below.trans ?_ (Below.mono ‹Below _ _ _› (by first | omega | (simp; done) | (simp; omega)))) | exact Below.refl _ _ | omega | (focus (simp; done)) | (focus (simp; omega)))) hhi) (by first | omega | (simp; done) | (simp; omega)) HB.out).mono ?_
    rintro e w2 ⟨rfl, hb2⟩
    have hz2 := hb2.size
    go_wp2_with fail
    go_ret2
    exact ⟨ret_ib HE.out.1.symm HE.out.2.symm, (by repeat (first | (with_reducible exact Below.refl _ _) | (with_reducible refine below_ov ?_ ?_) | (with_reducible refine Below.setCell ?_ ?_ _) | (with_reducible refine Below.alloc ?_ ?_ _) | (with_reducible refine Below.drew ?_) | (with_reducible refine below_drewN ?_ _) | (refine Below.trans ?_ (Below.mono ‹Below _ _ _› (by first | omega | (simp; done) | (simp; omega)))) | exact Below.refl _ _ | omega | (focus (simp; done)) | (focus (simp; omega))))⟩
set_option maxRecDepth 100000 in
set_option maxHeartbeats 1600000 in
theorem state_any (T : Tm) (k : Int) (pb po lo hi : Nat) (vc : Value) (w : World) (h : TmAt w pb po T vc lo hi) (hB : tmB T = true) (hk : 0 ≤ k) (hk' : k ≤ 600) :
    Calls Try.prog 50 #[.pointer (some ⟨pb, po, none⟩), .int .i64 k] w fun e w' => e = .returned (.string (stB T k)) ∧ Below w.heap.size w w' := by
  have hz := tmTN_bd hB
  go_enter Try.func50, Try.ntmps50
  go_wp2_with fail
  refine (turn_any T pb po lo hi vc _ h hB).mono ?_
  rintro e w1 ⟨rfl, hb1⟩
  have hz1 := hb1.size
  cases h1 : tmTOk T with
  | false =>
    have HE : Hid (stB T k = sTurn) := by show _ = _; rw [stB, if_pos (.inl h1)]
    go_wp2_with fail
    go_ret
    exact ⟨ret_str HE.out.symm, (by repeat (first | (with_reducible exact Below.refl _ _) | (with_reducible refine below_ov ?_ ?_) | (with_reducible refine Below.setCell ?_ ?_ _) | (with_reducible refine Below.alloc ?_ ?_ _) | (with_reducible refine Below.drew ?_) | (with_reducible refine below_drewN ?_ _) | (refine Below.trans ?_ (Below.mono ‹Below _ _ _› (by first | omega | (simp; done) | (simp; omega)))) | exact Below.refl _ _ | omega | (focus (simp; done)) | (focus (simp; omega))))⟩
  | true =>
    cases h2 : decide (k > tmTN T) with
    | true =>
      have HE : Hid (stB T k = sTurn) := by show _ = _; rw [stB, if_pos (.inr (of_decide_eq_true h2))]
      go_wp2_with fail
      go_ret
      exact ⟨ret_str HE.out.symm, (by repeat (first | (with_reducible exact Below.refl _ _) | (with_reducible refine below_ov ?_ ?_) | (with_reducible refine Below.setCell ?_ ?_ _) | (with_reducible refine Below.alloc ?_ ?_ _) | (with_reducible refine Below.drew ?_) | (with_reducible refine below_drewN ?_ _) | (refine Below.trans ?_ (Below.mono ‹Below _ _ _› (by first | omega | (simp; done) | (simp; omega)))) | exact Below.refl _ _ | omega | (focus (simp; done)) | (focus (simp; omega))))⟩
    | false =>
      have h2' := of_decide_eq_false h2
      cases h3 : decide (tmTN T - k ≤ 5) with
      | true =>
        have HE : Hid (stB T k = sSoon) := by show _ = _; rw [stB, if_neg (by rw [h1]; simp; omega), if_pos (of_decide_eq_true h3)]
        go_wp2_with fail
        go_ret
        exact ⟨ret_str HE.out.symm, (by repeat (first | (with_reducible exact Below.refl _ _) | (with_reducible refine below_ov ?_ ?_) | (with_reducible refine Below.setCell ?_ ?_ _) | (with_reducible refine Below.alloc ?_ ?_ _) | (with_reducible refine Below.drew ?_) | (with_reducible refine below_drewN ?_ _) | (refine Below.trans ?_ (Below.mono ‹Below _ _ _› (by first | omega | (simp; done) | (simp; omega)))) | exact Below.refl _ _ | omega | (focus (simp; done)) | (focus (simp; omega))))⟩
      | false =>
        have HE : Hid (stB T k = sOk) := by show _ = _; rw [stB, if_neg (by rw [h1]; simp; omega), if_neg (of_decide_eq_false h3)]
        go_wp2_with fail
        go_ret
        exact ⟨ret_str HE.out.symm, (by repeat (first | (with_reducible exact Below.refl _ _) | (with_reducible refine below_ov ?_ ?_) | (with_reducible refine Below.setCell ?_ ?_ _) | (with_reducible refine Below.alloc ?_ ?_ _) | (with_reducible refine Below.drew ?_) | (with_reducible refine below_drewN ?_ _) | (refine Below.trans ?_ (Below.mono ‹Below _ _ _› (by first | omega | (simp; done) | (simp; omega)))) | exact Below.refl _ _ | omega | (focus (simp; done)) | (focus (simp; omega))))⟩

set_option maxRecDepth 100000 in
set_option maxHeartbeats 1600000 in
theorem enState_any (T : Tm) (k : Int) (lo hi : Nat) (vc : Value) (w : World) (hs : Sl w lo hi 2 vc T.n (iiC T.m T.b)) (hhi : hi ≤ w.heap.size) (hB : tmB T = true) (hk : 0 ≤ k) (hk' : k ≤ 600) :
    Calls Try.prog 52 #[.agg #[.string T.s, .int .i64 T.v, .int .i64 T.y, vc], .int .i64 k] w fun e w' => e = .returned (.string (stB T k)) ∧ Below w.heap.size w w' := by
  have hz := tmTN_bd hB
  go_enter Try.func52, Try.ntmps52
  go_wp2_with fail
  refine (enTurn_any T lo hi vc _ (hs.below (B := w.heap.size) (by repeat (first | (with_reducible exact Below.refl _ _) | (with_reducible refine below_ov ?_ ?_) | (with_reducible refine Below.setCell ?_ ?_ _) | (with_reducible refine Below.alloc ?_ ?_ _) | (with_reducible refine Below.drew ?_) | (with_reducible refine below_drewN ?_ _) | (refine Below.trans ?_ (Below.mono ‹Below _ _ _› (by first | omega | (simp; done) | (simp; omega)))) | exact Below.refl _ _ | omega | (focus (simp; done)) | (focus (simp; omega)))) hhi) (by first | omega | (simp; done) | (simp; omega)) hB).mono ?_
  rintro e w1 ⟨rfl, hb1⟩
  have hz1 := hb1.size
  (try (simp at hz1))
  cases h1 : tmTOk T with
  | false =>
    have HE : Hid (stB T k = sTurn) := by show _ = _; rw [stB, if_pos (.inl h1)]
    go_wp2_with fail
    go_ret
    exact ⟨ret_str HE.out.symm, (by repeat (first | (with_reducible exact Below.refl _ _) | (with_reducible refine below_ov ?_ ?_) | (with_reducible refine Below.setCell ?_ ?_ _) | (with_reducible refine Below.alloc ?_ ?_ _) | (with_reducible refine Below.drew ?_) | (with_reducible refine below_drewN ?_ _) | (refine Below.trans ?_ (Below.mono ‹Below _ _ _› (by first | omega | (simp; done) | (simp; omega)))) | exact Below.refl _ _ | omega | (focus (simp; done)) | (focus (simp; omega))))⟩
  | true =>
    cases h2 : decide (k > tmTN T) with
    | true =>
      have HE : Hid (stB T k = sTurn) := by show _ = _; rw [stB, if_pos (.inr (of_decide_eq_true h2))]
      go_wp2_with fail
      go_ret
      exact ⟨ret_str HE.out.symm, (by repeat (first | (with_reducible exact Below.refl _ _) | (with_reducible refine below_ov ?_ ?_) | (with_reducible refine Below.setCell ?_ ?_ _) | (with_reducible refine Below.alloc ?_ ?_ _) | (with_reducible refine Below.drew ?_) | (with_reducible refine below_drewN ?_ _) | (refine Below.trans ?_ (Below.mono ‹Below _ _ _› (by first | omega | (simp; done) | (simp; omega)))) | exact Below.refl _ _ | omega | (focus (simp; done)) | (focus (simp; omega))))⟩
    | false =>
      have h2' := of_decide_eq_false h2
      cases h3 : decide (tmTN T - k ≤ 5) with
      | true =>
        have HE : Hid (stB T k = sSoon) := by show _ = _; rw [stB, if_neg (by rw [h1]; simp; omega), if_pos (of_decide_eq_true h3)]
        go_wp2_with fail
        go_ret
        exact ⟨ret_str HE.out.symm, (by repeat (first | (with_reducible exact Below.refl _ _) | (with_reducible refine below_ov ?_ ?_) | (with_reducible refine Below.setCell ?_ ?_ _) | (with_reducible refine Below.alloc ?_ ?_ _) | (with_reducible refine Below.drew ?_) | (with_reducible refine below_drewN ?_ _) | (refine Below.trans ?_ (Below.mono ‹Below _ _ _› (by first | omega | (simp; done) | (simp; omega)))) | exact Below.refl _ _ | omega | (focus (simp; done)) | (focus (simp; omega))))⟩
      | false =>
        have HE : Hid (stB T k = sOk) := by show _ = _; rw [stB, if_neg (by rw [h1]; simp; omega), if_neg (of_decide_eq_false h3)]
        go_wp2_with fail
        go_ret
        exact ⟨ret_str HE.out.symm, (by repeat (first | (with_reducible exact Below.refl _ _) | (with_reducible refine below_ov ?_ ?_) | (with_reducible refine Below.setCell ?_ ?_ _) | (with_reducible refine Below.alloc ?_ ?_ _) | (with_reducible refine Below.drew ?_) | (with_reducible refine below_drewN ?_ _) | (refine Below.trans ?_ (Below.mono ‹Below _ _ _› (by first | omega | (simp; done) | (simp; omega)))) | exact Below.refl _ _ | omega | (focus (simp; done)) | (focus (simp; omega))))⟩
def staOk (T : Tm) (k : Int) : Bool := tmB T && inB k 0 600
def staS (T : Tm) (k : Int) : ByteArray := if staOk T k = true then stB T k else ⟨#[]⟩
set_option maxRecDepth 100000 in
set_option maxHeartbeats 1600000 in
theorem TeamState_impl (T : Tm) (k : Int) (lo hi : Nat) (vc : Value) (w : World) (hs : Sl w lo hi 2 vc T.n (iiC T.m T.b)) (hhi : hi ≤ w.heap.size) (hf : T.fits) :
    Calls Try.prog 17 #[.agg #[.string T.s, .int .i64 T.v, .int .i64 T.y, vc], .int .i64 k] w fun e w' => e = .returned (.tuple #[.string (staS T k), .bool (staOk T k)]) ∧ Below w.heap.size w w' := by
  cases hc1_0 : tmB T with
  | false =>
    have HA : Hid (staOk T k = false) := by show _ = _; simp [staOk, *]
    go_enter Try.func17, Try.ntmps17
    go_wp2_with (first | (go_at_call 33; refine (isTeam_any T _ _ lo hi vc _ (TmAt.new T lo hi vc w _ hs hhi) hf).mono ?_; rintro e w1 ⟨rfl, hb1⟩; have hz1 := hb1.size; (try (simp at hz1)); obtain ⟨hcw1, hfw1⟩ := bcell hb1; (try (have hy1 : w.heap.size < w1.heap.size := by omega)); (try (have hyy1 : w.heap.size + 1 < w1.heap.size := by omega)); (try (have hyyy1 : w.heap.size + 1 + 1 < w1.heap.size := by omega))) | (go_at_call 49; refine (inside_any _ _ _ _).mono ?_; rintro e w' ⟨rfl, rfl⟩))
    go_ret2
    exact ⟨ret_sb (by rw [staS, HA.out]; rfl) HA.out.symm, (by repeat (first | (with_reducible exact Below.refl _ _) | (with_reducible refine below_ov ?_ ?_) | (with_reducible refine Below.setCell ?_ ?_ _) | (with_reducible refine Below.alloc ?_ ?_ _) | (with_reducible refine Below.drew ?_) | (with_reducible refine below_drewN ?_ _) | (refine Below.trans ?_ (Below.mono ‹Below _ _ _› (by first | omega | (simp; done) | (simp; omega)))) | exact Below.refl _ _ | omega | (focus (simp; done)) | (focus (simp; omega))))⟩
  | true =>
    cases hc1_1 : inB k 0 600 with
    | false =>
      have HA : Hid (staOk T k = false) := by show _ = _; simp [staOk, *]
      go_enter Try.func17, Try.ntmps17
      go_wp2_with (first | (go_at_call 33; refine (isTeam_any T _ _ lo hi vc _ (TmAt.new T lo hi vc w _ hs hhi) hf).mono ?_; rintro e w1 ⟨rfl, hb1⟩; have hz1 := hb1.size; (try (simp at hz1)); obtain ⟨hcw1, hfw1⟩ := bcell hb1; (try (have hy1 : w.heap.size < w1.heap.size := by omega)); (try (have hyy1 : w.heap.size + 1 < w1.heap.size := by omega)); (try (have hyyy1 : w.heap.size + 1 + 1 < w1.heap.size := by omega))) | (go_at_call 49; refine (inside_any _ _ _ _).mono ?_; rintro e w' ⟨rfl, rfl⟩))
      go_ret2
      exact ⟨ret_sb (by rw [staS, HA.out]; rfl) HA.out.symm, (by repeat (first | (with_reducible exact Below.refl _ _) | (with_reducible refine below_ov ?_ ?_) | (with_reducible refine Below.setCell ?_ ?_ _) | (with_reducible refine Below.alloc ?_ ?_ _) | (with_reducible refine Below.drew ?_) | (with_reducible refine below_drewN ?_ _) | (refine Below.trans ?_ (Below.mono ‹Below _ _ _› (by first | omega | (simp; done) | (simp; omega)))) | exact Below.refl _ _ | omega | (focus (simp; done)) | (focus (simp; omega))))⟩
    | true =>
      obtain ⟨hc1_1l, hc1_1r⟩ := inB_iff.1 hc1_1
      have HA : Hid (staOk T k = true) := by show _ = _; simp [staOk, *]
      have HB : Hid (tmB T = true) := by show _ = _; assumption
      go_enter Try.func17, Try.ntmps17
      go_wp2_with (first | (go_at_call 33; refine (isTeam_any T _ _ lo hi vc _ (TmAt.new T lo hi vc w _ hs hhi) hf).mono ?_; rintro e w1 ⟨rfl, hb1⟩; have hz1 := hb1.size; (try (simp at hz1)); obtain ⟨hcw1, hfw1⟩ := bcell hb1; (try (have hy1 : w.heap.size < w1.heap.size := by omega)); (try (have hyy1 : w.heap.size + 1 < w1.heap.size := by omega)); (try (have hyyy1 : w.heap.size + 1 + 1 < w1.heap.size := by omega))) | (go_at_call 49; refine (inside_any _ _ _ _).mono ?_; rintro e w' ⟨rfl, rfl⟩))
      refine (state_any T k _ _ lo hi vc _ ((TmAt.new T lo hi vc w _ hs hhi).below hb1 (Nat.le_refl _)) HB.out (by omega) (by omega)).mono ?_
      rintro e w2 ⟨rfl, hb2⟩
      have hz2 := hb2.size
      go_wp2_with fail
      go_ret2
      exact ⟨ret_sb (by rw [staS, HA.out]; rfl) HA.out.symm, (by repeat (first | (with_reducible exact Below.refl _ _) | (with_reducible refine below_ov ?_ ?_) | (with_reducible refine Below.setCell ?_ ?_ _) | (with_reducible refine Below.alloc ?_ ?_ _) | (with_reducible refine Below.drew ?_) | (with_reducible refine below_drewN ?_ _) | (refine Below.trans ?_ (Below.mono ‹Below _ _ _› (by first | omega | (simp; done) | (simp; omega)))) | exact Below.refl _ _ | omega | (focus (simp; done)) | (focus (simp; omega))))⟩
theorem enMinute_any (n : Int) (w : World) :
    Calls Try.prog 51 #[.int .i64 n] w fun e w' => e = .returned (.bool (inB n 0 600)) ∧ w = w' := by
  go_enter Try.func51, Try.ntmps51
  go_wp2_with (go_at_call 71; refine (l1In_any _ _ _ _).mono ?_; rintro e w' ⟨rfl, rfl⟩)
  go_ret
  exact ⟨rfl, rfl⟩
set_option maxRecDepth 100000 in
set_option maxHeartbeats 1600000 in
theorem TeamState_spec (T : Tm) (k : Int) (lo hi : Nat) (vc : Value) (w : World) (hs : Sl w lo hi 2 vc T.n (iiC T.m T.b)) (hhi : hi ≤ w.heap.size) (hf : T.fits) :
    Calls Try.prog 18 #[.agg #[.string T.s, .int .i64 T.v, .int .i64 T.y, vc], .int .i64 k] w fun e w' => e = .returned (.tuple #[.string (staS T k), .bool (staOk T k)]) ∧ Below w.heap.size w w' := by
  cases hc2_0 : tmB T with
  | false =>
    have HA : Hid (staOk T k = false) := by show _ = _; simp [staOk, *]
    go_enter Try.func18, Try.ntmps18
    go_wp2_with (first | (go_at_call 41; refine (enOne_any T lo hi vc _ (hs.below (B := w.heap.size) (by repeat (first | (with_reducible exact Below.refl _ _) | (with_reducible refine below_ov ?_ ?_) | (with_reducible refine Below.setCell ?_ ?_ _) | (with_reducible refine Below.alloc ?_ ?_ _) | (with_reducible refine Below.drew ?_) | (with_reducible refine below_drewN ?_ _) | (refine Below.trans ?_ (Below.mono ‹Below _ _ _› (by first | omega | (simp; done) | (simp; omega)))) | exact Below.refl _ _ | omega | (focus (simp; done)) | (focus (simp; omega)))) hhi) (by first | omega | (simp; done) | (simp; omega)) hf).mono ?_; rintro e w1 ⟨rfl, hb1⟩; have hz1 := hb1.size; (try (simp at hz1)); obtain ⟨hcw1, hfw1⟩ := bcell hb1; (try (have hy1 : w.heap.size < w1.heap.size := by omega)); (try (have hyy1 : w.heap.size + 1 < w1.heap.size := by omega)); (try (have hyyy1 : w.heap.size + 1 + 1 < w1.heap.size := by omega))) | (go_at_call 51; refine (enMinute_any _ _).mono ?_; rintro e w' ⟨rfl, rfl⟩))
    go_ret2
    exact ⟨ret_sb (by rw [staS, HA.out]; rfl) HA.out.symm, (by repeat (first | (with_reducible exact Below.refl _ _) | (with_reducible refine below_ov ?_ ?_) | (with_reducible refine Below.setCell ?_ ?_ _) | (with_reducible refine Below.alloc ?_ ?_ _) | (with_reducible refine Below.drew ?_) | (with_reducible refine below_drewN ?_ _) | (refine Below.trans ?_ (Below.mono ‹Below _ _ _› (by first | omega | (simp; done) | (simp; omega)))) | exact Below.refl _ _ | omega | (focus (simp; done)) | (focus (simp; omega))))⟩
  | true =>
    cases hc2_1 : inB k 0 600 with
    | false =>
      have HA : Hid (staOk T k = false) := by show _ = _; simp [staOk, *]
      go_enter Try.func18, Try.ntmps18
      go_wp2_with (first | (go_at_call 41; refine (enOne_any T lo hi vc _ (hs.below (B := w.heap.size) (by repeat (first | (with_reducible exact Below.refl _ _) | (with_reducible refine below_ov ?_ ?_) | (with_reducible refine Below.setCell ?_ ?_ _) | (with_reducible refine Below.alloc ?_ ?_ _) | (with_reducible refine Below.drew ?_) | (with_reducible refine below_drewN ?_ _) | (refine Below.trans ?_ (Below.mono ‹Below _ _ _› (by first | omega | (simp; done) | (simp; omega)))) | exact Below.refl _ _ | omega | (focus (simp; done)) | (focus (simp; omega)))) hhi) (by first | omega | (simp; done) | (simp; omega)) hf).mono ?_; rintro e w1 ⟨rfl, hb1⟩; have hz1 := hb1.size; (try (simp at hz1)); obtain ⟨hcw1, hfw1⟩ := bcell hb1; (try (have hy1 : w.heap.size < w1.heap.size := by omega)); (try (have hyy1 : w.heap.size + 1 < w1.heap.size := by omega)); (try (have hyyy1 : w.heap.size + 1 + 1 < w1.heap.size := by omega))) | (go_at_call 51; refine (enMinute_any _ _).mono ?_; rintro e w' ⟨rfl, rfl⟩))
      go_ret2
      exact ⟨ret_sb (by rw [staS, HA.out]; rfl) HA.out.symm, (by repeat (first | (with_reducible exact Below.refl _ _) | (with_reducible refine below_ov ?_ ?_) | (with_reducible refine Below.setCell ?_ ?_ _) | (with_reducible refine Below.alloc ?_ ?_ _) | (with_reducible refine Below.drew ?_) | (with_reducible refine below_drewN ?_ _) | (refine Below.trans ?_ (Below.mono ‹Below _ _ _› (by first | omega | (simp; done) | (simp; omega)))) | exact Below.refl _ _ | omega | (focus (simp; done)) | (focus (simp; omega))))⟩
    | true =>
      obtain ⟨hc2_1l, hc2_1r⟩ := inB_iff.1 hc2_1
      have HA : Hid (staOk T k = true) := by show _ = _; simp [staOk, *]
      have HB : Hid (tmB T = true) := by show _ = _; assumption
      go_enter Try.func18, Try.ntmps18
      go_wp2_with (first | (go_at_call 41; refine (enOne_any T lo hi vc _ (hs.below (B := w.heap.size) (by repeat (first | (with_reducible exact Below.refl _ _) | (with_reducible refine below_ov ?_ ?_) | (with_reducible refine Below.setCell ?_ ?_ _) | (with_reducible refine Below.alloc ?_ ?_ _) | (with_reducible refine Below.drew ?_) | (with_reducible refine below_drewN ?_ _) | (refine Below.trans ?_ (Below.mono ‹Below _ _ _› (by first | omega | (simp; done) | (simp; omega)))) | exact Below.refl _ _ | omega | (focus (simp; done)) | (focus (simp; omega)))) hhi) (by first | omega | (simp; done) | (simp; omega)) hf).mono ?_; rintro e w1 ⟨rfl, hb1⟩; have hz1 := hb1.size; (try (simp at hz1)); obtain ⟨hcw1, hfw1⟩ := bcell hb1; (try (have hy1 : w.heap.size < w1.heap.size := by omega)); (try (have hyy1 : w.heap.size + 1 < w1.heap.size := by omega)); (try (have hyyy1 : w.heap.size + 1 + 1 < w1.heap.size := by omega))) | (go_at_call 51; refine (enMinute_any _ _).mono ?_; rintro e w' ⟨rfl, rfl⟩))
      refine (enState_any T k lo hi vc _ (hs.below (B := w.heap.size) (by repeat (first | (with_reducible exact Below.refl _ _) | (with_reducible refine below_ov ?_ ?_) | (with_reducible refine Below.setCell ?_ ?_ _) | (with_reducible refine Below.alloc ?_ ?_ _) | (with_reducible refine Below.drew ?_) | (with_reducible refine below_drewN ?_ _) | (refine Below.trans ?_ (Below.mono ‹Below _ _ _› (by first | omega | (simp; done) | (simp; omega)))) | exact Below.refl _ _ | omega | (focus (simp; done)) | (focus (simp; omega)))) hhi) (by first | omega | (simp; done) | (simp; omega)) HB.out (by omega) (by omega)).mono ?_
      rintro e w2 ⟨rfl, hb2⟩
      have hz2 := hb2.size
      go_wp2_with fail
      go_ret2
      exact ⟨ret_sb (by rw [staS, HA.out]; rfl) HA.out.symm, (by repeat (first | (with_reducible exact Below.refl _ _) | (with_reducible refine below_ov ?_ ?_) | (with_reducible refine Below.setCell ?_ ?_ _) | (with_reducible refine Below.alloc ?_ ?_ _) | (with_reducible refine Below.drew ?_) | (with_reducible refine below_drewN ?_ _) | (refine Below.trans ?_ (Below.mono ‹Below _ _ _› (by first | omega | (simp; done) | (simp; omega)))) | exact Below.refl _ _ | omega | (focus (simp; done)) | (focus (simp; omega))))⟩

end Go.Proofs.Ytnfhgnibjebmlaa

/-
  Walks: what the reference draws of teams: whatever it is.-/
namespace Go.Proofs.Ytnfhgnibjebmlaa
set_option linter.unusedVariables false
set_option linter.unusedSimpArgs false
open Go.RowKit

/-- A box of a team. -/
structure BxT (w : World) (b : Nat) (s : ByteArray) (x y : Int) (u : Value) : Prop where
  c0 : w.cell? ⟨b, 0, none⟩ = some (.string s)
  c1 : w.cell? ⟨b, 1, none⟩ = some (.int .i64 x)
  c2 : w.cell? ⟨b, 2, none⟩ = some (.int .i64 y)
  c3 : w.cell? ⟨b, 3, none⟩ = some u
  fr : ∀ o, w.frozen? ⟨b, o, none⟩ = false
  lt : b < w.heap.size
section
variable {w w' : World} {b g : Nat} {s : ByteArray} {x y : Int} {u : Value}
theorem BxT.keep (h : BxT w b s x y u) (hk : w'.heap[b]? = w.heap[b]?) (hs : w.heap.size ≤ w'.heap.size) : BxT w' b s x y u :=
  ⟨(World.cell?_of_block (a := ⟨b, 0, none⟩) hk).trans h.c0, (World.cell?_of_block (a := ⟨b, 1, none⟩) hk).trans h.c1, (World.cell?_of_block (a := ⟨b, 2, none⟩) hk).trans h.c2, (World.cell?_of_block (a := ⟨b, 3, none⟩) hk).trans h.c3, fun o => (World.frozen?_of_block (a := ⟨b, o, none⟩) hk).trans (h.fr o), Nat.lt_of_lt_of_le h.lt hs⟩
theorem BxT.only (h : BxT w b s x y u) (hO : Only g (g + 1) w w') (hne : b ≠ g) : BxT w' b s x y u := h.keep (hO.block b h.lt (by omega)) hO.size
theorem BxT.below (h : BxT w b s x y u) (hb : Below w.heap.size w w') : BxT w' b s x y u := h.keep (hb.block b h.lt) hb.size
theorem BxT.alloc (h : BxT w b s x y u) (o : Obj) : BxT (w.alloc o) b s x y u := h.keep (((Below.refl _ _).alloc (Nat.le_refl _) o).block b h.lt) (by simp)
theorem BxT.new (w : World) (s : ByteArray) (x y : Int) (u : Value) (t : TypeId) : BxT (w.alloc (.cells #[.string s, .int .i64 x, .int .i64 y, u] t)) w.heap.size s x y u :=
  ⟨World.cell?_alloc_new _ _ _ _, World.cell?_alloc_new _ _ _ _, World.cell?_alloc_new _ _ _ _, World.cell?_alloc_new _ _ _ _, fun o => by simp [go_sem], by simp⟩
theorem BxT.set1 (h : BxT w b s x y u) (x' : Int) : BxT (w.setCell ⟨b, 1, none⟩ (.int .i64 x')) b s x' y u := by
  have h0 := h.c0; have h1 := h.c1; have h2 := h.c2; have h3 := h.c3
  exact ⟨by simp [go_sem, h0, h1], by simp [go_sem, h1], by simp [go_sem, h2, h1], by simp [go_sem, h3, h1], fun o => by simp [go_sem, h.fr], by simp [World.setCell]; exact h.lt⟩
theorem BxT.set2 (h : BxT w b s x y u) (y' : Int) : BxT (w.setCell ⟨b, 2, none⟩ (.int .i64 y')) b s x y' u := by
  have h0 := h.c0; have h1 := h.c1; have h2 := h.c2; have h3 := h.c3
  exact ⟨by simp [go_sem, h0, h2], by simp [go_sem, h1, h2], by simp [go_sem, h2], by simp [go_sem, h3, h2], fun o => by simp [go_sem, h.fr], by simp [World.setCell]; exact h.lt⟩
theorem BxT.set3 (h : BxT w b s x y u) (u' : Value) : BxT (w.setCell ⟨b, 3, none⟩ u') b s x y u' := by
  have h0 := h.c0; have h1 := h.c1; have h2 := h.c2; have h3 := h.c3
  exact ⟨by simp [go_sem, h0, h3], by simp [go_sem, h1, h3], by simp [go_sem, h2, h3], by simp [go_sem, h3], fun o => by simp [go_sem, h.fr], by simp [World.setCell]; exact h.lt⟩
theorem BxT.other {b' : Nat} (h : BxT w b s x y u) (hne : b ≠ b') (o : Nat) (v : Value) : BxT (w.setCell ⟨b', o, none⟩ v) b s x y u := h.keep (Deep.blk_setCell_other _ _ _ _ hne) (by simp [World.setCell])
theorem IRow.aside {lo sz n : Nat} {v : Value} (h : IRow w lo sz v n) {a : Addr} (ha : a.block < lo) (z : Value) : IRow (w.setCell a z) lo sz v n :=
  h.keep (fun q h1 _ => Deep.blk_setCell_other _ _ _ _ (by omega)) (by simp [World.setCell])
end
/-- The same, not in block b. -/
def IRn (w : World) (lo b sz : Nat) (v : Value) (n : Nat) : Prop := IRow w lo sz v n ∧ ∀ q cap, v = .slice (some ⟨q, 0, none⟩) n cap → q ≠ b
section
variable {w w' : World} {lo b sz n g : Nat} {v : Value}
theorem IRow.lt_of (h : IRow w lo sz v n) {q cap : Nat} (e : v = .slice (some ⟨q, 0, none⟩) n cap) : q < w.heap.size := by
  subst e
  rcases h with ⟨h, _⟩ | ⟨q', cap', h0, h1, h2, h3, h4, h5⟩
  · cases h
  · cases h0
    exact h3
theorem IRow.form (h : IRow w lo sz v n) : ∃ A cap, v = .slice A n cap := by
  rcases h with ⟨rfl, rfl⟩ | ⟨q', cap', h0, _⟩
  · exact ⟨_, _, rfl⟩
  · exact ⟨_, _, h0⟩
theorem IRn.of (h : IRow w lo sz v n) (hb : ∀ q cap, v = .slice (some ⟨q, 0, none⟩) n cap → q ≠ b) : IRn w lo b sz v n := ⟨h, hb⟩
theorem IRn.row (h : IRn w lo b sz v n) : IRow w lo sz v n := h.1
theorem IRn.only (h : IRn w lo b sz v n) (hO : Only g (g + 1) w w') (hg : g < lo) : IRn w' lo b sz v n := ⟨h.1.only hO hg, h.2⟩
theorem IRn.alloc (h : IRn w lo b sz v n) (o : Obj) : IRn (w.alloc o) lo b sz v n := ⟨h.1.alloc o, h.2⟩
theorem IRn.set (h : IRn w lo b sz v n) (k : Nat) (z : Value) : IRn (w.setCell ⟨b, k, none⟩ z) lo b sz v n := by
  refine ⟨?_, h.2⟩
  rcases h.1 with h1 | ⟨q, cap, h0, h1, h2, h3, h4, h5⟩
  · exact .inl h1
  · have hq := h.2 q cap h0
    have hk : (w.setCell ⟨b, k, none⟩ z).heap[q]? = w.heap[q]? := Deep.blk_setCell_other _ _ _ _ hq
    refine .inr ⟨q, cap, h0, h1, h2, by simp [World.setCell]; exact h3, fun o => (World.frozen?_of_block (a := ⟨q, o, none⟩) hk).trans (h4 o), fun o ho => ?_⟩
    obtain ⟨x, hx⟩ := h5 o ho
    exact ⟨x, (World.cell?_of_block (a := ⟨q, o, none⟩) hk).trans hx⟩
end
/-- What a drawn team is. -/
def TmPost (s : ByteArray) (g m lo : Nat) (w : World) (e : Ending) (w' : World) : Prop := ∃ (x y : Int) (u : Value) (n : Nat), e = .returned (.agg #[.string s, .int .i64 x, .int .i64 y, u]) ∧ IRow w' lo 2 u n ∧ n ≤ 21 ∧ Cu w' g m ∧ Only g (g + 1) w w'
set_option maxRecDepth 100000 in
set_option maxHeartbeats 6400000 in
theorem team_any (s : ByteArray) (g m : Nat) (w : World) (h : Cu w g m) (hm : m < 90000000) :
    Calls Try.prog 30 #[.pointer (some ⟨g, 0, none⟩), .string s] w (TmPost s g (m + 300) w.heap.size w) := by
  have hg := h.lt
  have R0 := BxT.new w ⟨#[]⟩ 0 0 (.slice none 0 0) 27
  have O0 : Only g (g + 1) w (w.alloc (.cells #[.string ⟨#[]⟩, .int .i64 0, .int .i64 0, .slice none 0 0] 27)) := (Only.refl _ _ _).alloc _
  have C0 := h.alloc (.cells #[.string ⟨#[]⟩, .int .i64 0, .int .i64 0, .slice none 0 0] 27)
  obtain ⟨rb, hrb⟩ : ∃ rb, rb = w.heap.size := ⟨_, rfl⟩
  go_enter Try.func30, Try.ntmps30
  go_wp2_with fail
  refine (among_new g _ _ _ _ _ _ C0 (by simp) (by omega) (by rfl) (by decide) (by decide) (by simp [isI])).mono ?_
  rintro e w1 ⟨v1, rfl, _, C1, o1⟩
  have R1 := R0.only o1 (by omega)
  have O1 := O0.trans o1
  clear R0 O0 o1 C0
  go_wp2_with fail
  refine (among_new g _ _ _ _ _ _ C1 (by first | (with_reducible rfl) | simp) (by omega) (by rfl) (by decide) (by decide) (by simp [isI])).mono ?_
  rintro e w2 ⟨v2, rfl, _, C2, o2⟩
  have R2 := R1.only o2 (by omega)
  have O2 := O1.trans o2
  clear R1 O1 o2 C1
  go_wp2_with fail
  refine (checks_any g _ _ C2 (by omega)).mono ?_
  rintro e w3 ⟨u3, rfl, n3, I3, hn3, C3, o3⟩
  have R3 := hide (R2.only o3 (by omega))
  have O3 := O2.trans o3
  have hlt2 := R2.lt
  have I3' := hide (IRn.of (b := w3.heap.size) (I3.mono (show w.heap.size + 1 ≤ w2.heap.size by omega)) (fun q cap e => by have := I3.lt_of e; omega))
  obtain ⟨A3, c3, rfl⟩ := I3.form
  clear R2 O2 o3 C2 I3
  go_wp2_with fail
  obtain ⟨W4, hW4⟩ : ∃ W, W = w3.alloc (.cells #[.string s, .int .i64 v1, .int .i64 v2, .slice A3 n3 c3] 27) := ⟨_, rfl⟩
  obtain ⟨bb, hbb⟩ : ∃ bb, bb = w3.heap.size := ⟨_, rfl⟩
  have T4 : Hid (BxT W4 bb s v1 v2 (.slice A3 n3 c3)) := by show BxT _ _ _ _ _ _; rw [hW4, hbb]; exact BxT.new _ _ _ _ _ _
  have R4 : Hid (BxT W4 w.heap.size ⟨#[]⟩ 0 0 (.slice none 0 0)) := by show BxT _ _ _ _ _ _; rw [hW4]; exact R3.out.alloc _
  have C4 : Cu W4 g (m + 2 + 2 + 200) := by rw [hW4]; exact C3.alloc _
  have O4 : Only g (g + 1) w W4 := by rw [hW4]; exact O3.alloc _
  have I4 : Hid (IRn W4 (w.heap.size + 1) bb 2 (.slice A3 n3 c3) n3) := by show IRn _ _ _ _ _ _; rw [hW4, hbb]; exact I3'.out.alloc _
  have hbl : w.heap.size < bb ∧ g < bb ∧ w.heap.size ≠ g := by have := R3.out.lt; have := C3.lt; omega
  rw [← hW4, ← hbb]
  clear hW4 hbb R3 O3 I3' C3
  refine (one_any g _ _ _ C4 (by omega)).mono ?_
  rintro e w5 ⟨b5, rfl, C5, o5⟩
  have T5 := hide (T4.out.only o5 (by omega))
  have R5 := hide (R4.out.only o5 (by omega))
  have I5 := hide (I4.out.only o5 (by omega))
  have O5 := O4.trans o5
  clear T4 R4 I4 O4 o5 C4
  -- TEAM
  cases b5 with
  | false =>
    go_wp2_with fail
    refine (pick_any g _ _ _ C5 (by omega)).mono ?_
    rintro e w6 ⟨v6, rfl, hv6, C6, o6⟩
    have T6 := hide (T5.out.only o6 (by omega))
    have R6 := hide (R5.out.only o6 (by omega))
    have I6 := hide (I5.out.only o6 (by omega))
    have O6 := O5.trans o6
    clear T5 R5 I5 O5 o6 C5 hv6
    by_cases e0 : v6 = 0
    · subst e0
      go_wp2_with fail
      refine (among_new g _ _ _ _ _ _ C6 (by first | (with_reducible rfl) | simp) (by omega) (by rfl) (by decide) (by decide) (by simp [isI])).mono ?_
      rintro e wz ⟨vz, rfl, _, Cz, oz⟩
      have Tz := hide (T6.out.only oz (by omega))
      have Rz := hide (R6.out.only oz (by omega))
      have TF := hide (Tz.out.set1 vz)
      have RF := hide (Rz.out.other (b' := bb) (by omega) 1 (.int .i64 vz))
      have IF := hide ((I6.out.only oz (by omega)).set 1 (.int .i64 vz))
      have CF := Cz.set (p := ⟨bb, 1, none⟩) (by show g < bb; omega) (.int .i64 vz)
      have OF := (O6.trans oz).setNew (a := ⟨bb, 1, none⟩) (by show w.heap.size ≤ bb; omega) (.int .i64 vz)
      obtain ⟨t0, t1, t2, t3, tf, tl⟩ := Tz.out
      obtain ⟨r0, r1, r2, r3, rf, rl⟩ := Rz.out
      clear Tz Rz T6 R6 I6 O6 oz Cz C6
      have qd : True := trivial

      have IG : Hid (IRow (((((wz.setCell ⟨bb, 1, none⟩ (.int .i64 vz)).setCell ⟨w.heap.size, 0, none⟩ (.string s)).setCell ⟨w.heap.size, 1, none⟩ (.int .i64 vz)).setCell ⟨w.heap.size, 2, none⟩ (.int .i64 v2)).setCell ⟨w.heap.size, 3, none⟩ (.slice A3 n3 c3)) w.heap.size 2 (.slice A3 n3 c3) n3) := ((((IF.out.row.aside (by show w.heap.size < w.heap.size + 1; omega) _).aside (by show w.heap.size < w.heap.size + 1; omega) _).aside (by show w.heap.size < w.heap.size + 1; omega) _).aside (by show w.heap.size < w.heap.size + 1; omega) _).mono (by omega)
      have CG : Hid (Cu (((((wz.setCell ⟨bb, 1, none⟩ (.int .i64 vz)).setCell ⟨w.heap.size, 0, none⟩ (.string s)).setCell ⟨w.heap.size, 1, none⟩ (.int .i64 vz)).setCell ⟨w.heap.size, 2, none⟩ (.int .i64 v2)).setCell ⟨w.heap.size, 3, none⟩ (.slice A3 n3 c3)) g (m + 300)) := ((((CF.set (by show g < w.heap.size; omega) _).set (by show g < w.heap.size; omega) _).set (by show g < w.heap.size; omega) _).set (by show g < w.heap.size; omega) _).more (by omega)
      have OG : Hid (Only g (g + 1) w (((((wz.setCell ⟨bb, 1, none⟩ (.int .i64 vz)).setCell ⟨w.heap.size, 0, none⟩ (.string s)).setCell ⟨w.heap.size, 1, none⟩ (.int .i64 vz)).setCell ⟨w.heap.size, 2, none⟩ (.int .i64 v2)).setCell ⟨w.heap.size, 3, none⟩ (.slice A3 n3 c3))) := (((OF.setNew (by show w.heap.size ≤ w.heap.size; omega) _).setNew (by show w.heap.size ≤ w.heap.size; omega) _).setNew (by show w.heap.size ≤ w.heap.size; omega) _).setNew (by show w.heap.size ≤ w.heap.size; omega) _
      clear IF CF OF TF RF
      go_wp2_with fail
      exact bodyPost_ret (v := .agg #[.string s, .int .i64 vz, .int .i64 v2, .slice A3 n3 c3]) (by simp [results, Try.results30, go_sem, *]) rfl ⟨_, _, _, _, rfl, IG.out, by omega, CG.out, OG.out⟩
    · have d0 : (v6 == 0) = false := by simp [e0]
      by_cases e1 : v6 = 1
      · subst e1
        go_wp2_with fail
        refine (among_new g _ _ _ _ _ _ C6 (by first | (with_reducible rfl) | simp) (by omega) (by rfl) (by decide) (by decide) (by simp [isI])).mono ?_
        rintro e wz ⟨vz, rfl, _, Cz, oz⟩
        have Tz := hide (T6.out.only oz (by omega))
        have Rz := hide (R6.out.only oz (by omega))
        have TF := hide (Tz.out.set2 vz)
        have RF := hide (Rz.out.other (b' := bb) (by omega) 2 (.int .i64 vz))
        have IF := hide ((I6.out.only oz (by omega)).set 2 (.int .i64 vz))
        have CF := Cz.set (p := ⟨bb, 2, none⟩) (by show g < bb; omega) (.int .i64 vz)
        have OF := (O6.trans oz).setNew (a := ⟨bb, 2, none⟩) (by show w.heap.size ≤ bb; omega) (.int .i64 vz)
        obtain ⟨t0, t1, t2, t3, tf, tl⟩ := Tz.out
        obtain ⟨r0, r1, r2, r3, rf, rl⟩ := Rz.out
        clear Tz Rz T6 R6 I6 O6 oz Cz C6
        have qd : True := trivial

        have IG : Hid (IRow (((((wz.setCell ⟨bb, 2, none⟩ (.int .i64 vz)).setCell ⟨w.heap.size, 0, none⟩ (.string s)).setCell ⟨w.heap.size, 1, none⟩ (.int .i64 v1)).setCell ⟨w.heap.size, 2, none⟩ (.int .i64 vz)).setCell ⟨w.heap.size, 3, none⟩ (.slice A3 n3 c3)) w.heap.size 2 (.slice A3 n3 c3) n3) := ((((IF.out.row.aside (by show w.heap.size < w.heap.size + 1; omega) _).aside (by show w.heap.size < w.heap.size + 1; omega) _).aside (by show w.heap.size < w.heap.size + 1; omega) _).aside (by show w.heap.size < w.heap.size + 1; omega) _).mono (by omega)
        have CG : Hid (Cu (((((wz.setCell ⟨bb, 2, none⟩ (.int .i64 vz)).setCell ⟨w.heap.size, 0, none⟩ (.string s)).setCell ⟨w.heap.size, 1, none⟩ (.int .i64 v1)).setCell ⟨w.heap.size, 2, none⟩ (.int .i64 vz)).setCell ⟨w.heap.size, 3, none⟩ (.slice A3 n3 c3)) g (m + 300)) := ((((CF.set (by show g < w.heap.size; omega) _).set (by show g < w.heap.size; omega) _).set (by show g < w.heap.size; omega) _).set (by show g < w.heap.size; omega) _).more (by omega)
        have OG : Hid (Only g (g + 1) w (((((wz.setCell ⟨bb, 2, none⟩ (.int .i64 vz)).setCell ⟨w.heap.size, 0, none⟩ (.string s)).setCell ⟨w.heap.size, 1, none⟩ (.int .i64 v1)).setCell ⟨w.heap.size, 2, none⟩ (.int .i64 vz)).setCell ⟨w.heap.size, 3, none⟩ (.slice A3 n3 c3))) := (((OF.setNew (by show w.heap.size ≤ w.heap.size; omega) _).setNew (by show w.heap.size ≤ w.heap.size; omega) _).setNew (by show w.heap.size ≤ w.heap.size; omega) _).setNew (by show w.heap.size ≤ w.heap.size; omega) _
        clear IF CF OF TF RF
        go_wp2_with fail
        exact bodyPost_ret (v := .agg #[.string s, .int .i64 v1, .int .i64 vz, .slice A3 n3 c3]) (by simp [results, Try.results30, go_sem, *]) rfl ⟨_, _, _, _, rfl, IG.out, by omega, CG.out, OG.out⟩
      · have d1 : (v6 == 1) = false := by simp [e1]
        have TF := T6
        have RF := R6
        have IF := I6
        have CF := C6
        have OF := O6
        clear T6 R6 I6 C6 O6
        obtain ⟨t0, t1, t2, t3, tf, tl⟩ := TF.out
        obtain ⟨r0, r1, r2, r3, rf, rl⟩ := RF.out
        have IG : Hid (IRow (((((w6).setCell ⟨w.heap.size, 0, none⟩ (.string s)).setCell ⟨w.heap.size, 1, none⟩ (.int .i64 v1)).setCell ⟨w.heap.size, 2, none⟩ (.int .i64 v2)).setCell ⟨w.heap.size, 3, none⟩ (.slice A3 n3 c3)) w.heap.size 2 (.slice A3 n3 c3) n3) := ((((IF.out.row.aside (by show w.heap.size < w.heap.size + 1; omega) _).aside (by show w.heap.size < w.heap.size + 1; omega) _).aside (by show w.heap.size < w.heap.size + 1; omega) _).aside (by show w.heap.size < w.heap.size + 1; omega) _).mono (by omega)
        have CG : Hid (Cu (((((w6).setCell ⟨w.heap.size, 0, none⟩ (.string s)).setCell ⟨w.heap.size, 1, none⟩ (.int .i64 v1)).setCell ⟨w.heap.size, 2, none⟩ (.int .i64 v2)).setCell ⟨w.heap.size, 3, none⟩ (.slice A3 n3 c3)) g (m + 300)) := ((((CF.set (by show g < w.heap.size; omega) _).set (by show g < w.heap.size; omega) _).set (by show g < w.heap.size; omega) _).set (by show g < w.heap.size; omega) _).more (by omega)
        have OG : Hid (Only g (g + 1) w (((((w6).setCell ⟨w.heap.size, 0, none⟩ (.string s)).setCell ⟨w.heap.size, 1, none⟩ (.int .i64 v1)).setCell ⟨w.heap.size, 2, none⟩ (.int .i64 v2)).setCell ⟨w.heap.size, 3, none⟩ (.slice A3 n3 c3))) := (((OF.setNew (by show w.heap.size ≤ w.heap.size; omega) _).setNew (by show w.heap.size ≤ w.heap.size; omega) _).setNew (by show w.heap.size ≤ w.heap.size; omega) _).setNew (by show w.heap.size ≤ w.heap.size; omega) _
        clear IF CF OF TF RF
        go_wp2_with fail
        exact bodyPost_ret (v := .agg #[.string s, .int .i64 v1, .int .i64 v2, .slice A3 n3 c3]) (by simp [results, Try.results30, go_sem, *]) rfl ⟨_, _, _, _, rfl, IG.out, by omega, CG.out, OG.out⟩
  | true =>
    go_wp2_with fail
    refine (pick_any g _ _ _ C5 (by omega)).mono ?_
    rintro e w7 ⟨v7, rfl, hv7, C7, o7⟩
    have T7 := hide (T5.out.only o7 (by omega))
    have R7 := hide (R5.out.only o7 (by omega))
    have O7 := O5.trans o7
    clear T5 R5 I5 O5 o7 C5 hv7
    go_wp2_with fail
    refine (among_new g _ _ _ _ _ _ C7 (by first | (with_reducible rfl) | simp) (by omega) (by rfl) (by decide) (by decide) (by simp [isI])).mono ?_
    rintro e w8 ⟨v8, rfl, _, C8, o8⟩
    have T8 := hide (T7.out.only o8 (by omega))
    have R8 := hide (R7.out.only o8 (by omega))
    have O8 := O7.trans o8
    clear T7 R7 O7 o8 C7
    obtain ⟨W9, hW9⟩ : ∃ W, W = (w8.setCell ⟨bb, 3, none⟩ (.slice (some ⟨w8.heap.size, 0, none⟩) 1 1)).alloc (.cells #[.int .i64 v7, .int .i64 v8] 56) := ⟨_, rfl⟩
    have T9 : Hid (BxT W9 bb s v1 v2 (.slice (some ⟨w8.heap.size, 0, none⟩) 1 1)) := by show BxT _ _ _ _ _ _; rw [hW9]; exact (T8.out.set3 _).alloc _
    have R9 : Hid (BxT W9 w.heap.size ⟨#[]⟩ 0 0 (.slice none 0 0)) := by show BxT _ _ _ _ _ _; rw [hW9]; exact (R8.out.other (by omega) _ _).alloc _
    have C9 : Cu W9 g (m + 2 + 2 + 200 + 2 + 2 + 2) := by rw [hW9]; exact (C8.set (by show g < bb; omega) _).alloc _
    have O9 : Only g (g + 1) w W9 := by rw [hW9]; exact (O8.setNew (by show w.heap.size ≤ bb; omega) _).alloc _
    have I9 : Hid (IRn W9 (w.heap.size + 1) bb 2 (.slice (some ⟨w8.heap.size, 0, none⟩) 1 1) 1) := by
      show IRn _ _ _ _ _ _
      rw [hW9]
      have hb8 := T8.out.lt
      have hsz : (w8.setCell ⟨bb, 3, none⟩ (.slice (some ⟨w8.heap.size, 0, none⟩) 1 1)).heap.size = w8.heap.size := by simp [World.setCell]
      have h := World.ownsRow_lit (base := w.heap.size + 1) (e := 56) (size := 2) (w8.setCell ⟨bb, 3, none⟩ (.slice (some ⟨w8.heap.size, 0, none⟩) 1 1)) #[.int .i64 v7, .int .i64 v8] 1 (by omega) (by unfold maxLen; omega) rfl
      rw [hsz] at h
      exact IRn.of (IRow.of_own (xs := [.int .i64 v7, .int .i64 v8]) h (fun u hu => by simp at hu; rcases hu with rfl | rfl <;> rfl)) (fun q cap e => by injection e with e1 _ _; injection e1 with e1; injection e1 with e1; omega)
    have hz9 : w8.heap.size < W9.heap.size := by rw [hW9]; simp [World.setCell]
    obtain ⟨t0, t1, t2, t3, tf, tl⟩ := T8.out
    go_wp2_with fail
    rw [← hW9]
    obtain ⟨qb, hqb⟩ : ∃ qb, qb = w8.heap.size := ⟨_, rfl⟩
    rw [← hqb] at T9 I9
    rw [← hqb]
    clear hW9 hqb t0 t1 t2 t3 tf tl T8 R8 O8 C8
    refine (pick_any g _ _ _ C9 (by omega)).mono ?_
    rintro e w10 ⟨v10, rfl, hv10, C10, o10⟩
    have T10 := hide (T9.out.only o10 (by omega))
    have R10 := hide (R9.out.only o10 (by omega))
    have I10 := hide (I9.out.only o10 (by omega))
    have O10 := O9.trans o10
    clear T9 R9 I9 O9 o10 C9 hv10
    by_cases e0 : v10 = 0
    · subst e0
      go_wp2_with fail
      refine (among_new g _ _ _ _ _ _ C10 (by first | (with_reducible rfl) | simp) (by omega) (by rfl) (by decide) (by decide) (by simp [isI])).mono ?_
      rintro e wz ⟨vz, rfl, _, Cz, oz⟩
      have Tz := hide (T10.out.only oz (by omega))
      have Rz := hide (R10.out.only oz (by omega))
      have TF := hide (Tz.out.set1 vz)
      have RF := hide (Rz.out.other (b' := bb) (by omega) 1 (.int .i64 vz))
      have IF := hide ((I10.out.only oz (by omega)).set 1 (.int .i64 vz))
      have CF := Cz.set (p := ⟨bb, 1, none⟩) (by show g < bb; omega) (.int .i64 vz)
      have OF := (O10.trans oz).setNew (a := ⟨bb, 1, none⟩) (by show w.heap.size ≤ bb; omega) (.int .i64 vz)
      obtain ⟨t0, t1, t2, t3, tf, tl⟩ := Tz.out
      obtain ⟨r0, r1, r2, r3, rf, rl⟩ := Rz.out
      clear Tz Rz T10 R10 I10 O10 oz Cz C10
      have qd : True := trivial

      have IG : Hid (IRow (((((wz.setCell ⟨bb, 1, none⟩ (.int .i64 vz)).setCell ⟨w.heap.size, 0, none⟩ (.string s)).setCell ⟨w.heap.size, 1, none⟩ (.int .i64 vz)).setCell ⟨w.heap.size, 2, none⟩ (.int .i64 v2)).setCell ⟨w.heap.size, 3, none⟩ (.slice (some ⟨qb, 0, none⟩) 1 1)) w.heap.size 2 (.slice (some ⟨qb, 0, none⟩) 1 1) 1) := ((((IF.out.row.aside (by show w.heap.size < w.heap.size + 1; omega) _).aside (by show w.heap.size < w.heap.size + 1; omega) _).aside (by show w.heap.size < w.heap.size + 1; omega) _).aside (by show w.heap.size < w.heap.size + 1; omega) _).mono (by omega)
      have CG : Hid (Cu (((((wz.setCell ⟨bb, 1, none⟩ (.int .i64 vz)).setCell ⟨w.heap.size, 0, none⟩ (.string s)).setCell ⟨w.heap.size, 1, none⟩ (.int .i64 vz)).setCell ⟨w.heap.size, 2, none⟩ (.int .i64 v2)).setCell ⟨w.heap.size, 3, none⟩ (.slice (some ⟨qb, 0, none⟩) 1 1)) g (m + 300)) := ((((CF.set (by show g < w.heap.size; omega) _).set (by show g < w.heap.size; omega) _).set (by show g < w.heap.size; omega) _).set (by show g < w.heap.size; omega) _).more (by omega)
      have OG : Hid (Only g (g + 1) w (((((wz.setCell ⟨bb, 1, none⟩ (.int .i64 vz)).setCell ⟨w.heap.size, 0, none⟩ (.string s)).setCell ⟨w.heap.size, 1, none⟩ (.int .i64 vz)).setCell ⟨w.heap.size, 2, none⟩ (.int .i64 v2)).setCell ⟨w.heap.size, 3, none⟩ (.slice (some ⟨qb, 0, none⟩) 1 1))) := (((OF.setNew (by show w.heap.size ≤ w.heap.size; omega) _).setNew (by show w.heap.size ≤ w.heap.size; omega) _).setNew (by show w.heap.size ≤ w.heap.size; omega) _).setNew (by show w.heap.size ≤ w.heap.size; omega) _
      clear IF CF OF TF RF
      go_wp2_with fail
      exact bodyPost_ret (v := .agg #[.string s, .int .i64 vz, .int .i64 v2, .slice (some ⟨qb, 0, none⟩) 1 1]) (by simp [results, Try.results30, go_sem, *]) rfl ⟨_, _, _, _, rfl, IG.out, by omega, CG.out, OG.out⟩
    · have d0 : (v10 == 0) = false := by simp [e0]
      by_cases e1 : v10 = 1
      · subst e1
        go_wp2_with fail
        refine (among_new g _ _ _ _ _ _ C10 (by first | (with_reducible rfl) | simp) (by omega) (by rfl) (by decide) (by decide) (by simp [isI])).mono ?_
        rintro e wz ⟨vz, rfl, _, Cz, oz⟩
        have Tz := hide (T10.out.only oz (by omega))
        have Rz := hide (R10.out.only oz (by omega))
        have TF := hide (Tz.out.set2 vz)
        have RF := hide (Rz.out.other (b' := bb) (by omega) 2 (.int .i64 vz))
        have IF := hide ((I10.out.only oz (by omega)).set 2 (.int .i64 vz))
        have CF := Cz.set (p := ⟨bb, 2, none⟩) (by show g < bb; omega) (.int .i64 vz)
        have OF := (O10.trans oz).setNew (a := ⟨bb, 2, none⟩) (by show w.heap.size ≤ bb; omega) (.int .i64 vz)
        obtain ⟨t0, t1, t2, t3, tf, tl⟩ := Tz.out
        obtain ⟨r0, r1, r2, r3, rf, rl⟩ := Rz.out
        clear Tz Rz T10 R10 I10 O10 oz Cz C10
        have qd : True := trivial

        have IG : Hid (IRow (((((wz.setCell ⟨bb, 2, none⟩ (.int .i64 vz)).setCell ⟨w.heap.size, 0, none⟩ (.string s)).setCell ⟨w.heap.size, 1, none⟩ (.int .i64 v1)).setCell ⟨w.heap.size, 2, none⟩ (.int .i64 vz)).setCell ⟨w.heap.size, 3, none⟩ (.slice (some ⟨qb, 0, none⟩) 1 1)) w.heap.size 2 (.slice (some ⟨qb, 0, none⟩) 1 1) 1) := ((((IF.out.row.aside (by show w.heap.size < w.heap.size + 1; omega) _).aside (by show w.heap.size < w.heap.size + 1; omega) _).aside (by show w.heap.size < w.heap.size + 1; omega) _).aside (by show w.heap.size < w.heap.size + 1; omega) _).mono (by omega)
        have CG : Hid (Cu (((((wz.setCell ⟨bb, 2, none⟩ (.int .i64 vz)).setCell ⟨w.heap.size, 0, none⟩ (.string s)).setCell ⟨w.heap.size, 1, none⟩ (.int .i64 v1)).setCell ⟨w.heap.size, 2, none⟩ (.int .i64 vz)).setCell ⟨w.heap.size, 3, none⟩ (.slice (some ⟨qb, 0, none⟩) 1 1)) g (m + 300)) := ((((CF.set (by show g < w.heap.size; omega) _).set (by show g < w.heap.size; omega) _).set (by show g < w.heap.size; omega) _).set (by show g < w.heap.size; omega) _).more (by omega)
        have OG : Hid (Only g (g + 1) w (((((wz.setCell ⟨bb, 2, none⟩ (.int .i64 vz)).setCell ⟨w.heap.size, 0, none⟩ (.string s)).setCell ⟨w.heap.size, 1, none⟩ (.int .i64 v1)).setCell ⟨w.heap.size, 2, none⟩ (.int .i64 vz)).setCell ⟨w.heap.size, 3, none⟩ (.slice (some ⟨qb, 0, none⟩) 1 1))) := (((OF.setNew (by show w.heap.size ≤ w.heap.size; omega) _).setNew (by show w.heap.size ≤ w.heap.size; omega) _).setNew (by show w.heap.size ≤ w.heap.size; omega) _).setNew (by show w.heap.size ≤ w.heap.size; omega) _
        clear IF CF OF TF RF
        go_wp2_with fail
        exact bodyPost_ret (v := .agg #[.string s, .int .i64 v1, .int .i64 vz, .slice (some ⟨qb, 0, none⟩) 1 1]) (by simp [results, Try.results30, go_sem, *]) rfl ⟨_, _, _, _, rfl, IG.out, by omega, CG.out, OG.out⟩
      · have d1 : (v10 == 1) = false := by simp [e1]
        have TF := T10
        have RF := R10
        have IF := I10
        have CF := C10
        have OF := O10
        clear T10 R10 I10 C10 O10
        obtain ⟨t0, t1, t2, t3, tf, tl⟩ := TF.out
        obtain ⟨r0, r1, r2, r3, rf, rl⟩ := RF.out
        have IG : Hid (IRow (((((w10).setCell ⟨w.heap.size, 0, none⟩ (.string s)).setCell ⟨w.heap.size, 1, none⟩ (.int .i64 v1)).setCell ⟨w.heap.size, 2, none⟩ (.int .i64 v2)).setCell ⟨w.heap.size, 3, none⟩ (.slice (some ⟨qb, 0, none⟩) 1 1)) w.heap.size 2 (.slice (some ⟨qb, 0, none⟩) 1 1) 1) := ((((IF.out.row.aside (by show w.heap.size < w.heap.size + 1; omega) _).aside (by show w.heap.size < w.heap.size + 1; omega) _).aside (by show w.heap.size < w.heap.size + 1; omega) _).aside (by show w.heap.size < w.heap.size + 1; omega) _).mono (by omega)
        have CG : Hid (Cu (((((w10).setCell ⟨w.heap.size, 0, none⟩ (.string s)).setCell ⟨w.heap.size, 1, none⟩ (.int .i64 v1)).setCell ⟨w.heap.size, 2, none⟩ (.int .i64 v2)).setCell ⟨w.heap.size, 3, none⟩ (.slice (some ⟨qb, 0, none⟩) 1 1)) g (m + 300)) := ((((CF.set (by show g < w.heap.size; omega) _).set (by show g < w.heap.size; omega) _).set (by show g < w.heap.size; omega) _).set (by show g < w.heap.size; omega) _).more (by omega)
        have OG : Hid (Only g (g + 1) w (((((w10).setCell ⟨w.heap.size, 0, none⟩ (.string s)).setCell ⟨w.heap.size, 1, none⟩ (.int .i64 v1)).setCell ⟨w.heap.size, 2, none⟩ (.int .i64 v2)).setCell ⟨w.heap.size, 3, none⟩ (.slice (some ⟨qb, 0, none⟩) 1 1))) := (((OF.setNew (by show w.heap.size ≤ w.heap.size; omega) _).setNew (by show w.heap.size ≤ w.heap.size; omega) _).setNew (by show w.heap.size ≤ w.heap.size; omega) _).setNew (by show w.heap.size ≤ w.heap.size; omega) _
        clear IF CF OF TF RF
        go_wp2_with fail
        exact bodyPost_ret (v := .agg #[.string s, .int .i64 v1, .int .i64 v2, .slice (some ⟨qb, 0, none⟩) 1 1]) (by simp [results, Try.results30, go_sem, *]) rfl ⟨_, _, _, _, rfl, IG.out, by omega, CG.out, OG.out⟩

end Go.Proofs.Ytnfhgnibjebmlaa

/-
  Plain laws on lists given by an index: the first that is so, how many are so. No program in sight.-/
namespace Go.Proofs.Ytnfhgnibjebmlaa
set_option linter.unusedVariables false
set_option linter.unusedSimpArgs false

/-- The first of n that is so, or -1. -/
def fstI (p : Nat → Bool) (n : Nat) : Int := if lead (fun i => !p i) n < n then (lead (fun i => !p i) n : Nat) else -1
theorem fstI_at {p : Nat → Bool} {n k : Nat} (hk : k < n) (hj : ∀ j, j < k → p j = false) (h : p k = true) : fstI p n = k := by
  have := lead_eq (g := fun i => !p i) (N := n) (k := k) (by omega) (fun j hj' => by simp [hj j hj']) (.inr (by simp [h]))
  rw [fstI, this, if_pos hk]
theorem fstI_none {p : Nat → Bool} {n : Nat} (hj : ∀ j, j < n → p j = false) : fstI p n = -1 := by
  have := lead_eq (g := fun i => !p i) (N := n) (k := n) (by omega) (fun j hj' => by simp [hj j hj']) (.inl rfl)
  rw [fstI, this, if_neg (by omega)]
theorem fstI_neg {p : Nat → Bool} {n : Nat} : decide (0 ≤ fstI p n) = !allB (fun i => !p i) n := by
  obtain ⟨h1, h2, h3⟩ := lead_spec (fun i => !p i) n
  unfold fstI
  split
  · rename_i h
    have h4 : (fun i => !p i) (lead (fun i => !p i) n) = false := by
      rcases h3 with h3 | h3
      · omega
      · exact h3
    rw [allB_false h h4]
    simp
  · rename_i h
    rw [allB_iff.2 fun i hi => h2 i (by omega)]
    simp

theorem fstI_bd (p : Nat → Bool) (n : Nat) : -1 ≤ fstI p n ∧ fstI p n < n ∨ n = 0 ∧ fstI p n = -1 := by
  unfold fstI
  split <;> omega
/-- Either none is so, or the first is known. -/
theorem fstI_cases (p : Nat → Bool) (n : Nat) : (fstI p n = -1 ∧ ∀ j, j < n → p j = false) ∨ ∃ k, k < n ∧ fstI p n = k ∧ p k = true ∧ ∀ j, j < k → p j = false := by
  obtain ⟨h1, h2, h3⟩ := lead_spec (fun i => !p i) n
  unfold fstI
  split
  · rename_i h
    right
    refine ⟨_, h, rfl, ?_, fun j hj => by simpa using h2 j hj⟩
    rcases h3 with h3 | h3
    · omega
    · simpa using h3
  · rename_i h
    left
    exact ⟨rfl, fun j hj => by simpa using h2 j (by omega)⟩
def cntF (p : Nat → Bool) : Nat → Nat
  | 0 => 0
  | n + 1 => cntF p n + if p n = true then 1 else 0
theorem cntF_le (p : Nat → Bool) (n : Nat) : cntF p n ≤ n := by
  induction n with
  | zero => simp [cntF]
  | succ n ih => unfold cntF; split <;> omega
theorem cntF_mono (p : Nat → Bool) {m n : Nat} (h : m ≤ n) : cntF p m ≤ cntF p n := by
  induction n with
  | zero => have : m = 0 := by omega
            subst this; exact Nat.le_refl _
  | succ n ih =>
    rcases Nat.lt_or_ge m (n + 1) with h1 | h1
    · have h2 := ih (by omega)
      have h3 : cntF p (n + 1) = cntF p n + if p n = true then 1 else 0 := rfl
      omega
    · have : m = n + 1 := by omega
      subst this; exact Nat.le_refl _

end Go.Proofs.Ytnfhgnibjebmlaa

/-
  Plain words on texts: one before another. No program in sight.-/
namespace Go.Proofs.Ytnfhgnibjebmlaa
set_option linter.unusedVariables false
set_option linter.unusedSimpArgs false

/-- A text comes before another one. -/
def ltS (x y : ByteArray) : Bool := Op.bytesLess x.toList y.toList
theorem bl_irrefl : ∀ l : List UInt8, Op.bytesLess l l = false
  | [] => rfl
  | a :: l => by simp [Op.bytesLess, bl_irrefl l]
theorem bl_trans : ∀ {a b c : List UInt8}, Op.bytesLess a b = true → Op.bytesLess b c = true → Op.bytesLess a c = true
  | [], b :: y, c :: z, _, _ => rfl
  | a :: x, [], c, h, _ => by simp [Op.bytesLess] at h
  | [], [], c, h, _ => by simp [Op.bytesLess] at h
  | a, b :: y, [], _, h => by simp [Op.bytesLess] at h
  | a :: x, b :: y, c :: z, h1, h2 => by
    simp only [Op.bytesLess, Bool.or_eq_true, decide_eq_true_eq, Bool.and_eq_true, beq_iff_eq] at *
    rcases h1 with h1 | ⟨rfl, h1⟩
    · rcases h2 with h2 | ⟨rfl, h2⟩
      · exact .inl (UInt8.lt_trans h1 h2)
      · exact .inl h1
    · rcases h2 with h2 | ⟨rfl, h2⟩
      · exact .inl h2
      · exact .inr ⟨rfl, bl_trans h1 h2⟩
theorem bl_tri : ∀ (a b : List UInt8), Op.bytesLess a b = true ∨ a = b ∨ Op.bytesLess b a = true
  | [], [] => .inr (.inl rfl)
  | [], b :: y => .inl rfl
  | a :: x, [] => .inr (.inr rfl)
  | a :: x, b :: y => by
    simp only [Op.bytesLess, Bool.or_eq_true, decide_eq_true_eq, Bool.and_eq_true, beq_iff_eq, List.cons.injEq]
    rcases Nat.lt_trichotomy a.toNat b.toNat with h | h | h
    · exact .inl (.inl (UInt8.lt_iff_toNat_lt.2 h))
    · have e : a = b := UInt8.toNat_inj.1 h
      subst e
      rcases bl_tri x y with h | h | h
      · exact .inl (.inr ⟨rfl, h⟩)
      · exact .inr (.inl ⟨rfl, h⟩)
      · exact .inr (.inr (.inr ⟨rfl, h⟩))
    · exact .inr (.inr (.inl (UInt8.lt_iff_toNat_lt.2 h)))
theorem ltS_irrefl (x : ByteArray) : ltS x x = false := bl_irrefl _
theorem ltS_trans {x y z : ByteArray} (h : ltS x y = true) (h' : ltS y z = true) : ltS x z = true := bl_trans h h'
theorem toList_inj {x y : ByteArray} (h : x.toList = y.toList) : x = y := by
  rw [ByteArray.toList_eq, ByteArray.toList_eq] at h
  exact WideShapes.bytes_inj h
theorem ltS_tri (x y : ByteArray) : ltS x y = true ∨ x = y ∨ ltS y x = true := by
  rcases bl_tri x.toList y.toList with h | h | h
  · exact .inl h
  · exact .inr (.inl (toList_inj h))
  · exact .inr (.inr h)
theorem ltS_asymm {x y : ByteArray} (h : ltS x y = true) : ltS y x = false := by
  cases e : ltS y x with
  | false => rfl
  | true => rw [← ltS_irrefl x, ← ltS_trans h e]
def cmpS (x y : ByteArray) : Int := if ltS x y = true then -1 else if x = y then 0 else 1

end Go.Proofs.Ytnfhgnibjebmlaa
