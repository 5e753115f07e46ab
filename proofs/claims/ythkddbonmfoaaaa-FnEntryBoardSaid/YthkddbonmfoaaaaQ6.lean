/-
  Texts of this proof, one behind the other (part 6).
-/
import Derived.Test.YthkddbonmfoaaaaQ5
/-
  Walks: teams: the exported functions on one team.-/
namespace Go.Proofs.Ythkddbonmfoaaaa
set_option linter.unusedVariables false
set_option linter.unusedSimpArgs false
open Go.RowKit

def sTurn : ByteArray := ⟨#[116, 117, 114, 110]⟩
def sSoon : ByteArray := ⟨#[115, 111, 111, 110]⟩
def sOk : ByteArray := ⟨#[111, 107]⟩
def stB (T : Tm) (k : Int) : ByteArray := if tmTOk T = false ∨ tmTN T < k then sTurn else if tmTN T - k ≤ 5 then sSoon else sOk
theorem ret_sb {a c : ByteArray} {b d : Bool} (h : a = c) (h' : b = d) : Ending.returned (.tuple #[.string a, .bool b]) = .returned (.tuple #[.string c, .bool d]) := by rw [h, h']
theorem ret_str {a b : ByteArray} (h : a = b) : Ending.returned (.string a) = .returned (.string b) := by rw [h]
set_option maxRecDepth 100000 in
set_option maxHeartbeats 1600000 in
theorem TurnMinute_impl (T : Tm) (lo hi : Nat) (vc : Value) (w : World) (hs : Sl w lo hi 2 vc T.n (iiC T.m T.b)) (hhi : hi ≤ w.heap.size) (hf : T.fits) :
    Calls Try.prog 6 #[.agg #[.string T.s, .int .i64 T.v, .int .i64 T.y, vc]] w fun e w' => e = .returned (.tuple #[.int .i64 (turnNN T), .bool (turnOk T)]) ∧ Below w.heap.size w w' := by
  cases hB : tmB T with
  | false =>
    have HE : Hid (turnNN T = 0 ∧ turnOk T = false) := ⟨by rw [turnNN, hB]; rfl, by rw [turnOk, hB]; rfl⟩
    go_enter Try.func6, Try.ntmps6
    go_wp2_with (go_at_call 22; refine (isTeam_any T _ _ lo hi vc _ (TmAt.new T lo hi vc w _ hs hhi) hf).mono ?_; rintro e w1 ⟨rfl, hb1⟩; have hz1 := hb1.size; (try (simp at hz1)); obtain ⟨hcw1, hfw1⟩ := bcell hb1; (try (have hy1 : w.heap.size < w1.heap.size := by omega)); (try (have hyy1 : w.heap.size + 1 < w1.heap.size := by omega)); (try (have hyyy1 : w.heap.size + 1 + 1 < w1.heap.size := by omega)))
    go_ret2
    exact ⟨ret_ib HE.out.1.symm HE.out.2.symm, (by repeat (first | (with_reducible exact Below.refl _ _) | (with_reducible refine below_ov ?_ ?_) | (with_reducible refine Below.setCell ?_ ?_ _) | (with_reducible refine Below.alloc ?_ ?_ _) | (with_reducible refine Below.drew ?_) | (with_reducible refine below_drewN ?_ _) | (refine Below.trans ?_ (Below.mono ‹Below _ _ _› (by first | omega | (simp; done) | (simp; omega)))) | exact Below.refl _ _ | omega | (focus (simp; done)) | (focus (simp; omega))))⟩
  | true =>
    have HE : Hid (turnNN T = tmTN T ∧ turnOk T = tmTOk T) := ⟨by rw [turnNN, hB]; rfl, by rw [turnOk, hB]; rfl⟩
    have HB := hide hB
    go_enter Try.func6, Try.ntmps6
    go_wp2_with (go_at_call 22; refine (isTeam_any T _ _ lo hi vc _ (TmAt.new T lo hi vc w _ hs hhi) hf).mono ?_; rintro e w1 ⟨rfl, hb1⟩; have hz1 := hb1.size; (try (simp at hz1)); obtain ⟨hcw1, hfw1⟩ := bcell hb1; (try (have hy1 : w.heap.size < w1.heap.size := by omega)); (try (have hyy1 : w.heap.size + 1 < w1.heap.size := by omega)); (try (have hyyy1 : w.heap.size + 1 + 1 < w1.heap.size := by omega)))
    refine (turn_any T _ _ lo hi vc _ ((TmAt.new T lo hi vc w _ hs hhi).below hb1 (Nat.le_refl _)) HB.out).mono ?_
    rintro e w2 ⟨rfl, hb2⟩
    have hz2 := hb2.size
    go_wp2_with fail
    go_ret2
    exact ⟨ret_ib HE.out.1.symm HE.out.2.symm, (by repeat (first | (with_reducible exact Below.refl _ _) | (with_reducible refine below_ov ?_ ?_) | (with_reducible refine Below.setCell ?_ ?_ _) | (with_reducible refine Below.alloc ?_ ?_ _) | (with_reducible refine Below.drew ?_) | (with_reducible refine below_drewN ?_ _) | (refine Below.trans ?_ (Below.mono ‹Below _ _ _› (by first | omega | (simp; done) | (simp; omega)))) | exact Below.refl _ _ | omega | (focus (simp; done)) | (focus (simp; omega))))⟩
set_option maxRecDepth 100000 in
set_option maxHeartbeats 1600000 in
theorem TurnMinute_spec (T : Tm) (lo hi : Nat) (vc : Value) (w : World) (hs : Sl w lo hi 2 vc T.n (iiC T.m T.b)) (hhi : hi ≤ w.heap.size) (hf : T.fits) :
    Calls Try.prog 7 #[.agg #[.string T.s, .int .i64 T.v, .int .i64 T.y, vc]] w fun e w' => e = .returned (.tuple #[.int .i64 (turnNN T), .bool (turnOk T)]) ∧ Below w.heap.size w w' := by
  cases hB : tmB T with
  | false =>
    have HE : Hid (turnNN T = 0 ∧ turnOk T = false) := ⟨by rw [turnNN, hB]; rfl, by rw [turnOk, hB]; rfl⟩
    go_enter Try.func7, Try.ntmps7
    go_wp2_with (go_at_call 24; refine (enOne_any T lo hi vc _ (hs.below (B := w.heap.size) (by repeat (first | (with_reducible exact Below.refl _ _) | (with_reducible refine below_ov ?_ ?_) | (with_reducible refine Below.setCell ?_ ?_ _) | (with_reducible refine Below.alloc ?_ ?_ _) | (with_reducible refine Below.drew ?_) | (with_reducible refine below_drewN ?_ _) | (refine Below.trans ?_ (Below.mono ‹Below _ _ _› (by first | omega | (simp; done) | (simp; omega)))) | exact Below.refl _ _ | omega | (focus (simp; done)) | (focus (simp; omega)))) hhi) (by first | omega | (simp; done) | (simp; omega)) hf).mono ?_; rintro e w1 ⟨rfl, hb1⟩; have hz1 := hb1.size; (try (simp at hz1)); obtain ⟨hcw1, hfw1⟩ := bcell hb1; (try (have hy1 : w.heap.size < w1.heap.size := by omega)); (try (have hyy1 : w.heap.size + 1 < w1.heap.size := by omega)); (try (have hyyy1 : w.heap.size + 1 + 1 < w1.heap.size := by omega)))
    go_ret2
    exact ⟨ret_ib HE.out.1.symm HE.out.2.symm, (by repeat (first | (with_reducible exact Below.refl _ _) | (with_reducible refine below_ov ?_ ?_) | (with_reducible refine Below.setCell ?_ ?_ _) | (with_reducible refine Below.alloc ?_ ?_ _) | (with_reducible refine Below.drew ?_) | (with_reducible refine below_drewN ?_ _) | (refine Below.trans ?_ (Below.mono ‹Below _ _ _› (by first | omega | (simp; done) | (simp; omega)))) | exact Below.refl _ _ | omega | (focus (simp; done)) | (focus (simp; omega))))⟩
  | true =>
    have HE : Hid (turnNN T = tmTN T ∧ turnOk T = tmTOk T) := ⟨by rw [turnNN, hB]; rfl, by rw [turnOk, hB]; rfl⟩
    have HB := hide hB
    go_enter Try.func7, Try.ntmps7
    go_wp2_with (go_at_call 24; refine (enOne_any T lo hi vc _ (hs.below (B := w.heap.size) (by repeat (first | (with_reducible exact Below.refl _ _) | (with_reducible refine below_ov ?_ ?_) | (with_reducible refine Below.setCell ?_ ?_ _) | (with_reducible refine Below.alloc ?_ ?_ _) | (with_reducible refine Below.drew ?_) | (with_reducible refine below_drewN ?_ _) | (refine Below.trans ?_ (Below.mono ‹Below _ _ _› (by first | omega | (simp; done) | (simp; omega)))) | exact Below.refl _ _ | omega | (focus (simp; done)) | (focus (simp; omega)))) hhi) (by first | omega | (simp; done) | (simp; omega)) hf).mono ?_; rintro e w1 ⟨rfl, hb1⟩; have hz1 := hb1.size; (try (simp at hz1)); obtain ⟨hcw1, hfw1⟩ := bcell hb1; (try (have hy1 : w.heap.size < w1.heap.size := by omega)); (try (have hyy1 : w.heap.size + 1 < w1.heap.size := by omega)); (try (have hyyy1 : w.heap.size + 1 + 1 < w1.heap.size := by omega)))
    refine (enTurn_any T lo hi vc _ (hs.below (B := w.heap.size) (by repeat (first | (with_reducible exact Below.refl _ _) | (with_reducible refine below_ov ?_ ?_) | (with_reducible refine Below.setCell ?_ ?_ _) | (with_reducible refine Below.alloc ?_ ?_ _) | (with_reducible refine Below.drew ?_) | (with_reducible refine below_drewN ?_ _) | (refine Below.trans ?_ (Below.mono ‹Below _ _ _› (by first | omega | (simp; done) | (simp; omega)))) | exact Below.refl _ _ | omega | (focus (simp; done)) | (focus (simp; omega)))) hhi) (by first | omega | (simp; done) | (simp; omega)) HB.out).mono ?_
    rintro e w2 ⟨rfl, hb2⟩
    have hz2 := hb2.size
    go_wp2_with fail
    go_ret2
    exact ⟨ret_ib HE.out.1.symm HE.out.2.symm, (by repeat (first | (with_reducible exact Below.refl _ _) | (with_reducible refine below_ov ?_ ?_) | (with_reducible refine Below.setCell ?_ ?_ _) | (with_reducible refine Below.alloc ?_ ?_ _) | (with_reducible refine Below.drew ?_) | (with_reducible refine below_drewN ?_ _) | (refine Below.trans ?_ (Below.mono ‹Below _ _ _› (by first | omega | (simp; done) | (simp; omega)))) | exact Below.refl _ _ | omega | (focus (simp; done)) | (focus (simp; omega))))⟩
set_option maxRecDepth 100000 in
set_option maxHeartbeats 1600000 in
theorem state_any (T : Tm) (k : Int) (pb po lo hi : Nat) (vc : Value) (w : World) (h : TmAt w pb po T vc lo hi) (hB : tmB T = true) (hk : 0 ≤ k) (hk' : k ≤ 600) :
    Calls Try.prog 41 #[.pointer (some ⟨pb, po, none⟩), .int .i64 k] w fun e w' => e = .returned (.string (stB T k)) ∧ Below w.heap.size w w' := by
  have hz := tmTN_bd hB
  go_enter Try.func41, Try.ntmps41
  go_wp2_with fail
  refine (turn_any T pb po lo hi vc _ h hB).mono ?_
  rintro e w1 ⟨rfl, hb1⟩
  have hz1 := hb1.size
  cases h1 : tmTOk T with
  | false =>
    have HE : Hid (stB T k = sTurn) := by show _ = _; rw [stB, if_pos (.inl h1)]
    go_wp2_with fail
    go_ret
    exact ⟨ret_str HE.out.symm, (by repeat (first | (with_reducible exact Below.refl _ _) | (with_reducible refine below_ov ?_ ?_) | (with_reducible refine Below.setCell ?_ ?_ _) | (with_reducible refine Below.alloc ?_ ?_ _) | (with_reducible refine Below.drew ?_) | (with_reducible refine below_drewN ?_ _) | (refine Below.trans ?_ (Below.mono ‹Below _ _ _› (by first | omega | (simp; done) | (simp; omega)))) | exact Below.refl _ _ | omega | (focus (simp; done)) | (focus (simp; omega))))⟩
  | true =>
    cases h2 : decide (k > tmTN T) with
    | true =>
      have HE : Hid (stB T k = sTurn) := by show _ = _; rw [stB, if_pos (.inr (of_decide_eq_true h2))]
      go_wp2_with fail
      go_ret
      exact ⟨ret_str HE.out.symm, (by repeat (first | (with_reducible exact Below.refl _ _) | (with_reducible refine below_ov ?_ ?_) | (with_reducible refine Below.setCell ?_ ?_ _) | (with_reducible refine Below.alloc ?_ ?_ _) | (with_reducible refine Below.drew ?_) | (with_reducible refine below_drewN ?_ _) | (refine Below.trans ?_ (Below.mono ‹Below _ _ _› (by first | omega | (simp; done) | (simp; omega)))) | exact Below.refl _ _ | omega | (focus (simp; done)) | (focus (simp; omega))))⟩
    | false =>
      have h2' := of_decide_eq_false h2
      cases h3 : decide (tmTN T - k ≤ 5) with
      | true =>
        have HE : Hid (stB T k = sSoon) := by show _ = _; rw [stB, if_neg (by rw [h1]; simp; omega), if_pos (of_decide_eq_true h3)]
        go_wp2_with fail
        go_ret
        exact ⟨ret_str HE.out.symm, (by repeat (first | (with_reducible exact Below.refl _ _) | (with_reducible refine below_ov ?_ ?_) | (with_reducible refine Below.setCell ?_ ?_ _) | (with_reducible refine Below.alloc ?_ ?_ _) | (with_reducible refine Below.drew ?_) | (with_reducible refine below_drewN ?_ _) | (refine Below.trans ?_ (Below.mono ‹Below _ _ _› (by first | omega | (simp; done) | (simp; omega)))) | exact Below.refl _ _ | omega | (focus (simp; done)) | (focus (simp; omega))))⟩
      | false =>
        have HE : Hid (stB T k = sOk) := by show _ = _; rw [stB, if_neg (by rw [h1]; simp; omega), if_neg (of_decide_eq_false h3)]
        go_wp2_with fail
        go_ret
        exact ⟨ret_str HE.out.symm, (by repeat (first | (with_reducible exact Below.refl _ _) | (with_reducible refine below_ov ?_ ?_) | (with_reducible refine Below.setCell ?_ ?_ _) | (with_reducible refine Below.alloc ?_ ?_ _) | (with_reducible refine Below.drew ?_) | (with_reducible refine below_drewN ?_ _) | (refine Below.trans ?_ (Below.mono ‹Below _ _ _› (by first | omega | (simp; done) | (simp; omega)))) | exact Below.refl _ _ | omega | (focus (simp; done)) | (focus (simp; omega))))⟩

set_option maxRecDepth 100000 in
set_option maxHeartbeats 1600000 in
theorem enState_any (T : Tm) (k : Int) (lo hi : Nat) (vc : Value) (w : World) (hs : Sl w lo hi 2 vc T.n (iiC T.m T.b)) (hhi : hi ≤ w.heap.size) (hB : tmB T = true) (hk : 0 ≤ k) (hk' : k ≤ 600) :
    Calls Try.prog 47 #[.agg #[.string T.s, .int .i64 T.v, .int .i64 T.y, vc], .int .i64 k] w fun e w' => e = .returned (.string (stB T k)) ∧ Below w.heap.size w w' := by
  have hz := tmTN_bd hB
  go_enter Try.func47, Try.ntmps47
  go_wp2_with fail
  refine (enTurn_any T lo hi vc _ (hs.below (B := w.heap.size) (by repeat (first | (with_reducible exact Below.refl _ _) | (with_reducible refine below_ov ?_ ?_) | (with_reducible refine Below.setCell ?_ ?_ _) | (with_reducible refine Below.alloc ?_ ?_ _) | (with_reducible refine Below.drew ?_) | (with_reducible refine below_drewN ?_ _) | (refine Below.trans ?_ (Below.mono ‹Below _ _ _› (by first | omega | (simp; done) | (simp; omega)))) | exact Below.refl _ _ | omega | (focus (simp; done)) | (focus (simp; omega)))) hhi) (by first | omega | (simp; done) | (simp; omega)) hB).mono ?_
  rintro e w1 ⟨rfl, hb1⟩
  have hz1 := hb1.size
  (try (simp at hz1))
  cases h1 : tmTOk T with
  | false =>
    have HE : Hid (stB T k = sTurn) := by show _ = _; rw [stB, if_pos (.inl h1)]
    go_wp2_with fail
    go_ret
    exact ⟨ret_str HE.out.symm, (by repeat (first | (with_reducible exact Below.refl _ _) | (with_reducible refine below_ov ?_ ?_) | (with_reducible refine Below.setCell ?_ ?_ _) | (with_reducible refine Below.alloc ?_ ?_ _) | (with_reducible refine Below.drew ?_) | (with_reducible refine below_drewN ?_ _) | (refine Below.trans ?_ (Below.mono ‹Below _ _ _› (by first | omega | (simp; done) | (simp; omega)))) | exact Below.refl _ _ | omega | (focus (simp; done)) | (focus (simp; omega))))⟩
  | true =>
    cases h2 : decide (k > tmTN T) with
    | true =>
      have HE : Hid (stB T k = sTurn) := by show _ = _; rw [stB, if_pos (.inr (of_decide_eq_true h2))]
      go_wp2_with fail
      go_ret
      exact ⟨ret_str HE.out.symm, (by repeat (first | (with_reducible exact Below.refl _ _) | (with_reducible refine below_ov ?_ ?_) | (with_reducible refine Below.setCell ?_ ?_ _) | (with_reducible refine Below.alloc ?_ ?_ _) | (with_reducible refine Below.drew ?_) | (with_reducible refine below_drewN ?_ _) | (refine Below.trans ?_ (Below.mono ‹Below _ _ _› (by first | omega | (simp; done) | (simp; omega)))) | exact Below.refl _ _ | omega | (focus (simp; done)) | (focus (simp; omega))))⟩
    | false =>
      have h2' := of_decide_eq_false h2
      cases h3 : decide (tmTN T - k ≤ 5) with
      | true =>
        have HE : Hid (stB T k = sSoon) := by show _ = _; rw [stB, if_neg (by rw [h1]; simp; omega), if_pos (of_decide_eq_true h3)]
        go_wp2_with fail
        go_ret
        exact ⟨ret_str HE.out.symm, (by repeat (first | (with_reducible exact Below.refl _ _) | (with_reducible refine below_ov ?_ ?_) | (with_reducible refine Below.setCell ?_ ?_ _) | (with_reducible refine Below.alloc ?_ ?_ _) | (with_reducible refine Below.drew ?_) | (with_reducible refine below_drewN ?_ _) | (refine Below.trans ?_ (Below.mono ‹Below _ _ _› (by first | omega | (simp; done) | (simp; omega)))) | exact Below.refl _ _ | omega | (focus (simp; done)) | (focus (simp; omega))))⟩
      | false =>
        have HE : Hid (stB T k = sOk) := by show _ = _; rw [stB, if_neg (by rw [h1]; simp; omega), if_neg (of_decide_eq_false h3)]
        go_wp2_with fail
        go_ret
        exact ⟨ret_str HE.out.symm, (by repeat (first | (with_reducible exact Below.refl _ _) | (with_reducible refine below_ov ?_ ?_) | (with_reducible refine Below.setCell ?_ ?_ _) | (with_reducible refine Below.alloc ?_ ?_ _) | (with_reducible refine Below.drew ?_) | (with_reducible refine below_drewN ?_ _) | (refine Below.trans ?_ (Below.mono ‹Below _ _ _› (by first | omega | (simp; done) | (simp; omega)))) | exact Below.refl _ _ | omega | (focus (simp; done)) | (focus (simp; omega))))⟩
def staOk (T : Tm) (k : Int) : Bool := tmB T && inB k 0 600
def staS (T : Tm) (k : Int) : ByteArray := if staOk T k = true then stB T k else ⟨#[]⟩
set_option maxRecDepth 100000 in
set_option maxHeartbeats 1600000 in
theorem TeamState_impl (T : Tm) (k : Int) (lo hi : Nat) (vc : Value) (w : World) (hs : Sl w lo hi 2 vc T.n (iiC T.m T.b)) (hhi : hi ≤ w.heap.size) (hf : T.fits) :
    Calls Try.prog 15 #[.agg #[.string T.s, .int .i64 T.v, .int .i64 T.y, vc], .int .i64 k] w fun e w' => e = .returned (.tuple #[.string (staS T k), .bool (staOk T k)]) ∧ Below w.heap.size w w' := by
  cases hc1_0 : tmB T with
  | false =>
    have HA : Hid (staOk T k = false) := by show _ = _; simp [staOk, *]
    go_enter Try.func15, Try.ntmps15
    go_wp2_with (first | (go_at_call 22; refine (isTeam_any T _ _ lo hi vc _ (TmAt.new T lo hi vc w _ hs hhi) hf).mono ?_; rintro e w1 ⟨rfl, hb1⟩; have hz1 := hb1.size; (try (simp at hz1)); obtain ⟨hcw1, hfw1⟩ := bcell hb1; (try (have hy1 : w.heap.size < w1.heap.size := by omega)); (try (have hyy1 : w.heap.size + 1 < w1.heap.size := by omega)); (try (have hyyy1 : w.heap.size + 1 + 1 < w1.heap.size := by omega))) | (go_at_call 28; refine (inside_any _ _ _ _).mono ?_; rintro e w' ⟨rfl, rfl⟩))
    go_ret2
    exact ⟨ret_sb (by rw [staS, HA.out]; rfl) HA.out.symm, (by repeat (first | (with_reducible exact Below.refl _ _) | (with_reducible refine below_ov ?_ ?_) | (with_reducible refine Below.setCell ?_ ?_ _) | (with_reducible refine Below.alloc ?_ ?_ _) | (with_reducible refine Below.drew ?_) | (with_reducible refine below_drewN ?_ _) | (refine Below.trans ?_ (Below.mono ‹Below _ _ _› (by first | omega | (simp; done) | (simp; omega)))) | exact Below.refl _ _ | omega | (focus (simp; done)) | (focus (simp; omega))))⟩
  | true =>
    cases hc1_1 : inB k 0 600 with
    | false =>
      have HA : Hid (staOk T k = false) := by show _ = _; simp [staOk, *]
      go_enter Try.func15, Try.ntmps15
      go_wp2_with (first | (go_at_call 22; refine (isTeam_any T _ _ lo hi vc _ (TmAt.new T lo hi vc w _ hs hhi) hf).mono ?_; rintro e w1 ⟨rfl, hb1⟩; have hz1 := hb1.size; (try (simp at hz1)); obtain ⟨hcw1, hfw1⟩ := bcell hb1; (try (have hy1 : w.heap.size < w1.heap.size := by omega)); (try (have hyy1 : w.heap.size + 1 < w1.heap.size := by omega)); (try (have hyyy1 : w.heap.size + 1 + 1 < w1.heap.size := by omega))) | (go_at_call 28; refine (inside_any _ _ _ _).mono ?_; rintro e w' ⟨rfl, rfl⟩))
      go_ret2
      exact ⟨ret_sb (by rw [staS, HA.out]; rfl) HA.out.symm, (by repeat (first | (with_reducible exact Below.refl _ _) | (with_reducible refine below_ov ?_ ?_) | (with_reducible refine Below.setCell ?_ ?_ _) | (with_reducible refine Below.alloc ?_ ?_ _) | (with_reducible refine Below.drew ?_) | (with_reducible refine below_drewN ?_ _) | (refine Below.trans ?_ (Below.mono ‹Below _ _ _› (by first | omega | (simp; done) | (simp; omega)))) | exact Below.refl _ _ | omega | (focus (simp; done)) | (focus (simp; omega))))⟩
    | true =>
      obtain ⟨hc1_1l, hc1_1r⟩ := inB_iff.1 hc1_1
      have HA : Hid (staOk T k = true) := by show _ = _; simp [staOk, *]
      have HB : Hid (tmB T = true) := by show _ = _; assumption
      go_enter Try.func15, Try.ntmps15
      go_wp2_with (first | (go_at_call 22; refine (isTeam_any T _ _ lo hi vc _ (TmAt.new T lo hi vc w _ hs hhi) hf).mono ?_; rintro e w1 ⟨rfl, hb1⟩; have hz1 := hb1.size; (try (simp at hz1)); obtain ⟨hcw1, hfw1⟩ := bcell hb1; (try (have hy1 : w.heap.size < w1.heap.size := by omega)); (try (have hyy1 : w.heap.size + 1 < w1.heap.size := by omega)); (try (have hyyy1 : w.heap.size + 1 + 1 < w1.heap.size := by omega))) | (go_at_call 28; refine (inside_any _ _ _ _).mono ?_; rintro e w' ⟨rfl, rfl⟩))
      refine (state_any T k _ _ lo hi vc _ ((TmAt.new T lo hi vc w _ hs hhi).below hb1 (Nat.le_refl _)) HB.out (by omega) (by omega)).mono ?_
      rintro e w2 ⟨rfl, hb2⟩
      have hz2 := hb2.size
      go_wp2_with fail
      go_ret2
      exact ⟨ret_sb (by rw [staS, HA.out]; rfl) HA.out.symm, (by repeat (first | (with_reducible exact Below.refl _ _) | (with_reducible refine below_ov ?_ ?_) | (with_reducible refine Below.setCell ?_ ?_ _) | (with_reducible refine Below.alloc ?_ ?_ _) | (with_reducible refine Below.drew ?_) | (with_reducible refine below_drewN ?_ _) | (refine Below.trans ?_ (Below.mono ‹Below _ _ _› (by first | omega | (simp; done) | (simp; omega)))) | exact Below.refl _ _ | omega | (focus (simp; done)) | (focus (simp; omega))))⟩
theorem enMinute_any (n : Int) (w : World) :
    Calls Try.prog 46 #[.int .i64 n] w fun e w' => e = .returned (.bool (inB n 0 600)) ∧ w = w' := by
  go_enter Try.func46, Try.ntmps46
  go_wp2_with (go_at_call 56; refine (l1In_any _ _ _ _).mono ?_; rintro e w' ⟨rfl, rfl⟩)
  go_ret
  exact ⟨rfl, rfl⟩
set_option maxRecDepth 100000 in
set_option maxHeartbeats 1600000 in
theorem TeamState_spec (T : Tm) (k : Int) (lo hi : Nat) (vc : Value) (w : World) (hs : Sl w lo hi 2 vc T.n (iiC T.m T.b)) (hhi : hi ≤ w.heap.size) (hf : T.fits) :
    Calls Try.prog 17 #[.agg #[.string T.s, .int .i64 T.v, .int .i64 T.y, vc], .int .i64 k] w fun e w' => e = .returned (.tuple #[.string (staS T k), .bool (staOk T k)]) ∧ Below w.heap.size w w' := by
  cases hc2_0 : tmB T with
  | false =>
    have HA : Hid (staOk T k = false) := by show _ = _; simp [staOk, *]
    go_enter Try.func17, Try.ntmps17
    go_wp2_with (first | (go_at_call 24; refine (enOne_any T lo hi vc _ (hs.below (B := w.heap.size) (by repeat (first | (with_reducible exact Below.refl _ _) | (with_reducible refine below_ov ?_ ?_) | (with_reducible refine Below.setCell ?_ ?_ _) | (with_reducible refine Below.alloc ?_ ?_ _) | (with_reducible refine Below.drew ?_) | (with_reducible refine below_drewN ?_ _) | (refine Below.trans ?_ (Below.mono ‹Below _ _ _› (by first | omega | (simp; done) | (simp; omega)))) | exact Below.refl _ _ | omega | (focus (simp; done)) | (focus (simp; omega)))) hhi) (by first | omega | (simp; done) | (simp; omega)) hf).mono ?_; rintro e w1 ⟨rfl, hb1⟩; have hz1 := hb1.size; (try (simp at hz1)); obtain ⟨hcw1, hfw1⟩ := bcell hb1; (try (have hy1 : w.heap.size < w1.heap.size := by omega)); (try (have hyy1 : w.heap.size + 1 < w1.heap.size := by omega)); (try (have hyyy1 : w.heap.size + 1 + 1 < w1.heap.size := by omega))) | (go_at_call 46; refine (enMinute_any _ _).mono ?_; rintro e w' ⟨rfl, rfl⟩))
    go_ret2
    exact ⟨ret_sb (by rw [staS, HA.out]; rfl) HA.out.symm, (by repeat (first | (with_reducible exact Below.refl _ _) | (with_reducible refine below_ov ?_ ?_) | (with_reducible refine Below.setCell ?_ ?_ _) | (with_reducible refine Below.alloc ?_ ?_ _) | (with_reducible refine Below.drew ?_) | (with_reducible refine below_drewN ?_ _) | (refine Below.trans ?_ (Below.mono ‹Below _ _ _› (by first | omega | (simp; done) | (simp; omega)))) | exact Below.refl _ _ | omega | (focus (simp; done)) | (focus (simp; omega))))⟩
  | true =>
    cases hc2_1 : inB k 0 600 with
    | false =>
      have HA : Hid (staOk T k = false) := by show _ = _; simp [staOk, *]
      go_enter Try.func17, Try.ntmps17
      go_wp2_with (first | (go_at_call 24; refine (enOne_any T lo hi vc _ (hs.below (B := w.heap.size) (by repeat (first | (with_reducible exact Below.refl _ _) | (with_reducible refine below_ov ?_ ?_) | (with_reducible refine Below.setCell ?_ ?_ _) | (with_reducible refine Below.alloc ?_ ?_ _) | (with_reducible refine Below.drew ?_) | (with_reducible refine below_drewN ?_ _) | (refine Below.trans ?_ (Below.mono ‹Below _ _ _› (by first | omega | (simp; done) | (simp; omega)))) | exact Below.refl _ _ | omega | (focus (simp; done)) | (focus (simp; omega)))) hhi) (by first | omega | (simp; done) | (simp; omega)) hf).mono ?_; rintro e w1 ⟨rfl, hb1⟩; have hz1 := hb1.size; (try (simp at hz1)); obtain ⟨hcw1, hfw1⟩ := bcell hb1; (try (have hy1 : w.heap.size < w1.heap.size := by omega)); (try (have hyy1 : w.heap.size + 1 < w1.heap.size := by omega)); (try (have hyyy1 : w.heap.size + 1 + 1 < w1.heap.size := by omega))) | (go_at_call 46; refine (enMinute_any _ _).mono ?_; rintro e w' ⟨rfl, rfl⟩))
      go_ret2
      exact ⟨ret_sb (by rw [staS, HA.out]; rfl) HA.out.symm, (by repeat (first | (with_reducible exact Below.refl _ _) | (with_reducible refine below_ov ?_ ?_) | (with_reducible refine Below.setCell ?_ ?_ _) | (with_reducible refine Below.alloc ?_ ?_ _) | (with_reducible refine Below.drew ?_) | (with_reducible refine below_drewN ?_ _) | (refine Below.trans ?_ (Below.mono ‹Below _ _ _› (by first | omega | (simp; done) | (simp; omega)))) | exact Below.refl _ _ | omega | (focus (simp; done)) | (focus (simp; omega))))⟩
    | true =>
      obtain ⟨hc2_1l, hc2_1r⟩ := inB_iff.1 hc2_1
      have HA : Hid (staOk T k = true) := by show _ = _; simp [staOk, *]
      have HB : Hid (tmB T = true) := by show _ = _; assumption
      go_enter Try.func17, Try.ntmps17
      go_wp2_with (first | (go_at_call 24; refine (enOne_any T lo hi vc _ (hs.below (B := w.heap.size) (by repeat (first | (with_reducible exact Below.refl _ _) | (with_reducible refine below_ov ?_ ?_) | (with_reducible refine Below.setCell ?_ ?_ _) | (with_reducible refine Below.alloc ?_ ?_ _) | (with_reducible refine Below.drew ?_) | (with_reducible refine below_drewN ?_ _) | (refine Below.trans ?_ (Below.mono ‹Below _ _ _› (by first | omega | (simp; done) | (simp; omega)))) | exact Below.refl _ _ | omega | (focus (simp; done)) | (focus (simp; omega)))) hhi) (by first | omega | (simp; done) | (simp; omega)) hf).mono ?_; rintro e w1 ⟨rfl, hb1⟩; have hz1 := hb1.size; (try (simp at hz1)); obtain ⟨hcw1, hfw1⟩ := bcell hb1; (try (have hy1 : w.heap.size < w1.heap.size := by omega)); (try (have hyy1 : w.heap.size + 1 < w1.heap.size := by omega)); (try (have hyyy1 : w.heap.size + 1 + 1 < w1.heap.size := by omega))) | (go_at_call 46; refine (enMinute_any _ _).mono ?_; rintro e w' ⟨rfl, rfl⟩))
      refine (enState_any T k lo hi vc _ (hs.below (B := w.heap.size) (by repeat (first | (with_reducible exact Below.refl _ _) | (with_reducible refine below_ov ?_ ?_) | (with_reducible refine Below.setCell ?_ ?_ _) | (with_reducible refine Below.alloc ?_ ?_ _) | (with_reducible refine Below.drew ?_) | (with_reducible refine below_drewN ?_ _) | (refine Below.trans ?_ (Below.mono ‹Below _ _ _› (by first | omega | (simp; done) | (simp; omega)))) | exact Below.refl _ _ | omega | (focus (simp; done)) | (focus (simp; omega)))) hhi) (by first | omega | (simp; done) | (simp; omega)) HB.out (by omega) (by omega)).mono ?_
      rintro e w2 ⟨rfl, hb2⟩
      have hz2 := hb2.size
      go_wp2_with fail
      go_ret2
      exact ⟨ret_sb (by rw [staS, HA.out]; rfl) HA.out.symm, (by repeat (first | (with_reducible exact Below.refl _ _) | (with_reducible refine below_ov ?_ ?_) | (with_reducible refine Below.setCell ?_ ?_ _) | (with_reducible refine Below.alloc ?_ ?_ _) | (with_reducible refine Below.drew ?_) | (with_reducible refine below_drewN ?_ _) | (refine Below.trans ?_ (Below.mono ‹Below _ _ _› (by first | omega | (simp; done) | (simp; omega)))) | exact Below.refl _ _ | omega | (focus (simp; done)) | (focus (simp; omega))))⟩
set_option maxRecDepth 100000 in
set_option maxHeartbeats 1600000 in
theorem PressureAt_impl (T : Tm) (k : Int) (lo hi : Nat) (vc : Value) (w : World) (hs : Sl w lo hi 2 vc T.n (iiC T.m T.b)) (hhi : hi ≤ w.heap.size) (hf : T.fits) :
    Calls Try.prog 19 #[.agg #[.string T.s, .int .i64 T.v, .int .i64 T.y, vc], .int .i64 k] w fun e w' => e = .returned (.tuple #[.int .i64 (preN T k), .bool (preOk T k)]) ∧ Below w.heap.size w w' := by
  cases hB : tmB T with
  | false =>
    have HE : Hid (preN T k = 0 ∧ preOk T k = false) := ⟨by rw [preN, hB]; rfl, by rw [preOk, hB]; rfl⟩
    go_enter Try.func19, Try.ntmps19
    go_wp2_with (go_at_call 22; refine (isTeam_any T _ _ lo hi vc _ (TmAt.new T lo hi vc w _ hs hhi) hf).mono ?_; rintro e w1 ⟨rfl, hb1⟩; have hz1 := hb1.size; (try (simp at hz1)); obtain ⟨hcw1, hfw1⟩ := bcell hb1; (try (have hy1 : w.heap.size < w1.heap.size := by omega)); (try (have hyy1 : w.heap.size + 1 < w1.heap.size := by omega)); (try (have hyyy1 : w.heap.size + 1 + 1 < w1.heap.size := by omega)))
    go_ret2
    exact ⟨ret_ib HE.out.1.symm HE.out.2.symm, (by repeat (first | (with_reducible exact Below.refl _ _) | (with_reducible refine below_ov ?_ ?_) | (with_reducible refine Below.setCell ?_ ?_ _) | (with_reducible refine Below.alloc ?_ ?_ _) | (with_reducible refine Below.drew ?_) | (with_reducible refine below_drewN ?_ _) | (refine Below.trans ?_ (Below.mono ‹Below _ _ _› (by first | omega | (simp; done) | (simp; omega)))) | exact Below.refl _ _ | omega | (focus (simp; done)) | (focus (simp; omega))))⟩
  | true =>
    have HB := hide hB
    go_enter Try.func19, Try.ntmps19
    go_wp2_with (go_at_call 22; refine (isTeam_any T _ _ lo hi vc _ (TmAt.new T lo hi vc w _ hs hhi) hf).mono ?_; rintro e w1 ⟨rfl, hb1⟩; have hz1 := hb1.size; (try (simp at hz1)); obtain ⟨hcw1, hfw1⟩ := bcell hb1; (try (have hy1 : w.heap.size < w1.heap.size := by omega)); (try (have hyy1 : w.heap.size + 1 < w1.heap.size := by omega)); (try (have hyyy1 : w.heap.size + 1 + 1 < w1.heap.size := by omega)))
    have ta1 := (TmAt.new T lo hi vc w 26 hs hhi).below hb1 (Nat.le_refl _)
    refine (last_any T _ _ lo hi vc _ ta1 HB.out).mono ?_
    rintro e w2 ⟨rfl, hb2⟩
    have hz2 := hb2.size
    have ta2 := ta1.below hb2 (Nat.le_refl _)
    have hbw : Below w.heap.size w w2 := (by repeat (first | (with_reducible exact Below.refl _ _) | (with_reducible refine below_ov ?_ ?_) | (with_reducible refine Below.setCell ?_ ?_ _) | (with_reducible refine Below.alloc ?_ ?_ _) | (with_reducible refine Below.drew ?_) | (with_reducible refine below_drewN ?_ _) | (refine Below.trans ?_ (Below.mono ‹Below _ _ _› (by first | omega | (simp; done) | (simp; omega)))) | exact Below.refl _ _ | omega | (focus (simp; done)) | (focus (simp; omega))))
    obtain ⟨_, f2, f3, f4, f5, f6⟩ := tm_facts HB.out
    have f8 := tmR_bd (T := T)
    have hfl : ∀ (x y : Value) (w : World), (Instr.field 33 (.agg #[x, y]) 0).run Try.prog w = .ok x w := fun _ _ _ => by kernel_rfl
    clear hcw1 hfw1 hy1 ta1 hz1 hz2 hb1 hb2
    cases e1 : inB k T.lm 600 with
    | false =>
      have HE : Hid (preN T k = 0 ∧ preOk T k = false) := by
        have h1 : (tmB T && inB k T.lm 600) = false := by rw [HB.out, e1]; rfl
        exact ⟨by rw [preN, h1]; rfl, by rw [preOk, h1]; rfl⟩
      go_wp2_with (go_at_call 28; refine (inside_any _ _ _ _).mono ?_; rintro e w' ⟨rfl, rfl⟩)
      go_ret2
      exact ⟨ret_ib HE.out.1.symm HE.out.2.symm, (by repeat (first | (with_reducible exact Below.refl _ _) | (with_reducible refine below_ov ?_ ?_) | (with_reducible refine Below.setCell ?_ ?_ _) | (with_reducible refine Below.alloc ?_ ?_ _) | (with_reducible refine Below.drew ?_) | (with_reducible refine below_drewN ?_ _) | (refine Below.trans ?_ (Below.mono ‹Below _ _ _› (by first | omega | (simp; done) | (simp; omega)))) | exact Below.refl _ _ | omega | (focus (simp; done)) | (focus (simp; omega))))⟩
    | true =>
      have HE : Hid (preN T k = aftN T.v T.lb (tmR T * (k - T.lm)) ∧ preOk T k = aftOk T.v T.lb (tmR T * (k - T.lm))) := by
        have h1 : (tmB T && inB k T.lm 600) = true := by rw [HB.out, e1]; rfl
        exact ⟨by rw [preN, h1]; rfl, by rw [preOk, h1]; rfl⟩
      obtain ⟨e2, e3⟩ := inB_iff.1 e1
      have hm := mul_small (a := tmR T) (b := k - T.lm) (A := 200) (B := 600) (by omega) (by omega) (by omega) (by omega)
      have hl2 := ta2.lt
      go_wp2_with (go_at_call 28; refine (inside_any _ _ _ _).mono ?_; rintro e w' ⟨rfl, rfl⟩)
      refine (cylinder_any T _ _ lo hi vc _ (ta2.below (B := w2.heap.size) (by repeat (first | (with_reducible exact Below.refl _ _) | (with_reducible refine below_ov ?_ ?_) | (with_reducible refine Below.setCell ?_ ?_ _) | (with_reducible refine Below.alloc ?_ ?_ _) | (with_reducible refine Below.drew ?_) | (with_reducible refine below_drewN ?_ _) | (refine Below.trans ?_ (Below.mono ‹Below _ _ _› (by first | omega | (simp; done) | (simp; omega)))) | exact Below.refl _ _ | omega | (focus (simp; done)) | (focus (simp; omega)))) (Nat.le_refl _)) HB.out).mono ?_
      rintro e w3 ⟨rfl, hb3⟩
      have hz3 := hb3.size
      go_wp2_with fail
      refine (rate_any T _ _ lo hi vc _ (ta2.below (B := w2.heap.size) (by repeat (first | (with_reducible exact Below.refl _ _) | (with_reducible refine below_ov ?_ ?_) | (with_reducible refine Below.setCell ?_ ?_ _) | (with_reducible refine Below.alloc ?_ ?_ _) | (with_reducible refine Below.drew ?_) | (with_reducible refine below_drewN ?_ _) | (refine Below.trans ?_ (Below.mono ‹Below _ _ _› (by first | omega | (simp; done) | (simp; omega)))) | exact Below.refl _ _ | omega | (focus (simp; done)) | (focus (simp; omega)))) (Nat.le_refl _)) HB.out).mono ?_
      rintro e w4 ⟨rfl, hb4⟩
      have hz4 := hb4.size
      go_wp2_with fail
      refine (last_any T _ _ lo hi vc _ (ta2.below (B := w2.heap.size) (by repeat (first | (with_reducible exact Below.refl _ _) | (with_reducible refine below_ov ?_ ?_) | (with_reducible refine Below.setCell ?_ ?_ _) | (with_reducible refine Below.alloc ?_ ?_ _) | (with_reducible refine Below.drew ?_) | (with_reducible refine below_drewN ?_ _) | (refine Below.trans ?_ (Below.mono ‹Below _ _ _› (by first | omega | (simp; done) | (simp; omega)))) | exact Below.refl _ _ | omega | (focus (simp; done)) | (focus (simp; omega)))) (Nat.le_refl _)) HB.out).mono ?_
      rintro e w5 ⟨rfl, hb5⟩
      have hz5 := hb5.size
      go_wp2_with fail
      refine (barAfter_any T.v T.lb (tmR T * (k - T.lm)) _ (by omega) (by omega) (by omega) (by omega) (by omega) (by omega)).mono ?_
      rintro e w6 ⟨rfl, hb6⟩
      have hz6 := hb6.size
      go_wp2_with fail
      go_ret2
      exact ⟨ret_ib HE.out.1.symm HE.out.2.symm, (by repeat (first | (with_reducible exact Below.refl _ _) | (with_reducible refine below_ov ?_ ?_) | (with_reducible refine Below.setCell ?_ ?_ _) | (with_reducible refine Below.alloc ?_ ?_ _) | (with_reducible refine Below.drew ?_) | (with_reducible refine below_drewN ?_ _) | (refine Below.trans ?_ (Below.mono ‹Below _ _ _› (by first | omega | (simp; done) | (simp; omega)))) | exact Below.refl _ _ | omega | (focus (simp; done)) | (focus (simp; omega))))⟩
set_option maxRecDepth 100000 in
set_option maxHeartbeats 1600000 in
theorem PressureAt_spec (T : Tm) (k : Int) (lo hi : Nat) (vc : Value) (w : World) (hs : Sl w lo hi 2 vc T.n (iiC T.m T.b)) (hhi : hi ≤ w.heap.size) (hf : T.fits) :
    Calls Try.prog 20 #[.agg #[.string T.s, .int .i64 T.v, .int .i64 T.y, vc], .int .i64 k] w fun e w' => e = .returned (.tuple #[.int .i64 (preN T k), .bool (preOk T k)]) ∧ Below w.heap.size w w' := by
  cases hc3_0 : tmB T with
  | false =>
    have HE : Hid (preN T k = 0 ∧ preOk T k = false) := by
      have h1 : (tmB T && inB k T.lm 600) = false := by
        cases hB : tmB T with
        | false => rfl
        | true =>
          have h2 := (tm_facts hB).2.2.2.2.1
          have h3 : inB k 0 600 = false := by simp_all
          rw [inB_no] at h3
          show inB k T.lm 600 = false
          rw [inB_no]; omega
      exact ⟨by rw [preN, h1]; rfl, by rw [preOk, h1]; rfl⟩
    go_enter Try.func20, Try.ntmps20
    go_wp2_with (first | (go_at_call 24; refine (enOne_any T lo hi vc _ (hs.below (B := w.heap.size) (by repeat (first | (with_reducible exact Below.refl _ _) | (with_reducible refine below_ov ?_ ?_) | (with_reducible refine Below.setCell ?_ ?_ _) | (with_reducible refine Below.alloc ?_ ?_ _) | (with_reducible refine Below.drew ?_) | (with_reducible refine below_drewN ?_ _) | (refine Below.trans ?_ (Below.mono ‹Below _ _ _› (by first | omega | (simp; done) | (simp; omega)))) | exact Below.refl _ _ | omega | (focus (simp; done)) | (focus (simp; omega)))) hhi) (by first | omega | (simp; done) | (simp; omega)) hf).mono ?_; rintro e w1 ⟨rfl, hb1⟩; have hz1 := hb1.size; (try (simp at hz1)); obtain ⟨hcw1, hfw1⟩ := bcell hb1; (try (have hy1 : w.heap.size < w1.heap.size := by omega)); (try (have hyy1 : w.heap.size + 1 < w1.heap.size := by omega)); (try (have hyyy1 : w.heap.size + 1 + 1 < w1.heap.size := by omega))) | (go_at_call 46; refine (enMinute_any _ _).mono ?_; rintro e w' ⟨rfl, rfl⟩))
    go_ret2
    exact ⟨ret_ib HE.out.1.symm HE.out.2.symm, (by repeat (first | (with_reducible exact Below.refl _ _) | (with_reducible refine below_ov ?_ ?_) | (with_reducible refine Below.setCell ?_ ?_ _) | (with_reducible refine Below.alloc ?_ ?_ _) | (with_reducible refine Below.drew ?_) | (with_reducible refine below_drewN ?_ _) | (refine Below.trans ?_ (Below.mono ‹Below _ _ _› (by first | omega | (simp; done) | (simp; omega)))) | exact Below.refl _ _ | omega | (focus (simp; done)) | (focus (simp; omega))))⟩
  | true =>
    cases hc3_1 : inB k 0 600 with
    | false =>
      have HE : Hid (preN T k = 0 ∧ preOk T k = false) := by
        have h1 : (tmB T && inB k T.lm 600) = false := by
          cases hB : tmB T with
          | false => rfl
          | true =>
            have h2 := (tm_facts hB).2.2.2.2.1
            have h3 : inB k 0 600 = false := by simp_all
            rw [inB_no] at h3
            show inB k T.lm 600 = false
            rw [inB_no]; omega
        exact ⟨by rw [preN, h1]; rfl, by rw [preOk, h1]; rfl⟩
      go_enter Try.func20, Try.ntmps20
      go_wp2_with (first | (go_at_call 24; refine (enOne_any T lo hi vc _ (hs.below (B := w.heap.size) (by repeat (first | (with_reducible exact Below.refl _ _) | (with_reducible refine below_ov ?_ ?_) | (with_reducible refine Below.setCell ?_ ?_ _) | (with_reducible refine Below.alloc ?_ ?_ _) | (with_reducible refine Below.drew ?_) | (with_reducible refine below_drewN ?_ _) | (refine Below.trans ?_ (Below.mono ‹Below _ _ _› (by first | omega | (simp; done) | (simp; omega)))) | exact Below.refl _ _ | omega | (focus (simp; done)) | (focus (simp; omega)))) hhi) (by first | omega | (simp; done) | (simp; omega)) hf).mono ?_; rintro e w1 ⟨rfl, hb1⟩; have hz1 := hb1.size; (try (simp at hz1)); obtain ⟨hcw1, hfw1⟩ := bcell hb1; (try (have hy1 : w.heap.size < w1.heap.size := by omega)); (try (have hyy1 : w.heap.size + 1 < w1.heap.size := by omega)); (try (have hyyy1 : w.heap.size + 1 + 1 < w1.heap.size := by omega))) | (go_at_call 46; refine (enMinute_any _ _).mono ?_; rintro e w' ⟨rfl, rfl⟩))
      go_ret2
      exact ⟨ret_ib HE.out.1.symm HE.out.2.symm, (by repeat (first | (with_reducible exact Below.refl _ _) | (with_reducible refine below_ov ?_ ?_) | (with_reducible refine Below.setCell ?_ ?_ _) | (with_reducible refine Below.alloc ?_ ?_ _) | (with_reducible refine Below.drew ?_) | (with_reducible refine below_drewN ?_ _) | (refine Below.trans ?_ (Below.mono ‹Below _ _ _› (by first | omega | (simp; done) | (simp; omega)))) | exact Below.refl _ _ | omega | (focus (simp; done)) | (focus (simp; omega))))⟩
    | true =>
      obtain ⟨hc3_1l, hc3_1r⟩ := inB_iff.1 hc3_1
      have HB : Hid (tmB T = true) := by show _ = _; assumption
      go_enter Try.func20, Try.ntmps20
      go_wp2_with (first | (go_at_call 24; refine (enOne_any T lo hi vc _ (hs.below (B := w.heap.size) (by repeat (first | (with_reducible exact Below.refl _ _) | (with_reducible refine below_ov ?_ ?_) | (with_reducible refine Below.setCell ?_ ?_ _) | (with_reducible refine Below.alloc ?_ ?_ _) | (with_reducible refine Below.drew ?_) | (with_reducible refine below_drewN ?_ _) | (refine Below.trans ?_ (Below.mono ‹Below _ _ _› (by first | omega | (simp; done) | (simp; omega)))) | exact Below.refl _ _ | omega | (focus (simp; done)) | (focus (simp; omega)))) hhi) (by first | omega | (simp; done) | (simp; omega)) hf).mono ?_; rintro e w1 ⟨rfl, hb1⟩; have hz1 := hb1.size; (try (simp at hz1)); obtain ⟨hcw1, hfw1⟩ := bcell hb1; (try (have hy1 : w.heap.size < w1.heap.size := by omega)); (try (have hyy1 : w.heap.size + 1 < w1.heap.size := by omega)); (try (have hyyy1 : w.heap.size + 1 + 1 < w1.heap.size := by omega))) | (go_at_call 46; refine (enMinute_any _ _).mono ?_; rintro e w' ⟨rfl, rfl⟩))
      refine (enLast_any T lo hi vc _ (hs.below (B := w.heap.size) (by repeat (first | (with_reducible exact Below.refl _ _) | (with_reducible refine below_ov ?_ ?_) | (with_reducible refine Below.setCell ?_ ?_ _) | (with_reducible refine Below.alloc ?_ ?_ _) | (with_reducible refine Below.drew ?_) | (with_reducible refine below_drewN ?_ _) | (refine Below.trans ?_ (Below.mono ‹Below _ _ _› (by first | omega | (simp; done) | (simp; omega)))) | exact Below.refl _ _ | omega | (focus (simp; done)) | (focus (simp; omega)))) hhi) (by first | omega | (simp; done) | (simp; omega)) HB.out).mono ?_
      rintro e w2 ⟨rfl, hb2⟩
      have hz2 := hb2.size
      have x0 : w2.cell? ⟨w.heap.size, 0, none⟩ = some (.string T.s) := (hb2.cell (p := ⟨w.heap.size, 0, none⟩) (by show w.heap.size < _; omega)).trans ((hb1.cell (p := ⟨w.heap.size, 0, none⟩) (by simp)).trans (World.cell?_alloc_new _ _ _ _))
      have x1 : w2.cell? ⟨w.heap.size, 1, none⟩ = some (.int .i64 T.v) := (hb2.cell (p := ⟨w.heap.size, 1, none⟩) (by show w.heap.size < _; omega)).trans ((hb1.cell (p := ⟨w.heap.size, 1, none⟩) (by simp)).trans (World.cell?_alloc_new _ _ _ _))
      have x2 : w2.cell? ⟨w.heap.size, 2, none⟩ = some (.int .i64 T.y) := (hb2.cell (p := ⟨w.heap.size, 2, none⟩) (by show w.heap.size < _; omega)).trans ((hb1.cell (p := ⟨w.heap.size, 2, none⟩) (by simp)).trans (World.cell?_alloc_new _ _ _ _))
      have x3 : w2.cell? ⟨w.heap.size, 3, none⟩ = some (vc) := (hb2.cell (p := ⟨w.heap.size, 3, none⟩) (by show w.heap.size < _; omega)).trans ((hb1.cell (p := ⟨w.heap.size, 3, none⟩) (by simp)).trans (World.cell?_alloc_new _ _ _ _))
      have l2 : w.heap.size < w2.heap.size := by omega
      obtain ⟨_, f2, f3, f4, f5, f6⟩ := tm_facts HB.out
      have f8 := tmR_bd (T := T)
      clear hcw1 hfw1 hy1
      cases e1 : decide (k < T.lm) with
      | true =>
        have HE : Hid (preN T k = 0 ∧ preOk T k = false) := by
          have h1 : (tmB T && inB k T.lm 600) = false := by
            have := of_decide_eq_true e1
            rw [HB.out]; show inB k T.lm 600 = false
            rw [inB_no]; omega
          exact ⟨by rw [preN, h1]; rfl, by rw [preOk, h1]; rfl⟩
        go_wp2_with fail
        go_ret2
        exact ⟨ret_ib HE.out.1.symm HE.out.2.symm, (by repeat (first | (with_reducible exact Below.refl _ _) | (with_reducible refine below_ov ?_ ?_) | (with_reducible refine Below.setCell ?_ ?_ _) | (with_reducible refine Below.alloc ?_ ?_ _) | (with_reducible refine Below.drew ?_) | (with_reducible refine below_drewN ?_ _) | (refine Below.trans ?_ (Below.mono ‹Below _ _ _› (by first | omega | (simp; done) | (simp; omega)))) | exact Below.refl _ _ | omega | (focus (simp; done)) | (focus (simp; omega))))⟩
      | false =>
        have HE : Hid (preN T k = aftN T.v T.lb (tmR T * (k - T.lm)) ∧ preOk T k = aftOk T.v T.lb (tmR T * (k - T.lm))) := by
          have h1 : (tmB T && inB k T.lm 600) = true := by
            have := of_decide_eq_false e1
            rw [HB.out]; show inB k T.lm 600 = true
            rw [inB_iff]; omega
          exact ⟨by rw [preN, h1]; rfl, by rw [preOk, h1]; rfl⟩
        have e1' := of_decide_eq_false e1
        go_wp2_with fail
        (refine wp_region_below_lit (by kernel_rfl) (by kernel_rfl) ?_; (repeat (first | go_big_quiet_step ((first | (go_at_call 27; exact quiet_ov (enRate_any T lo hi vc _ (hs.below (B := w.heap.size) (by repeat (first | (with_reducible exact Below.refl _ _) | (with_reducible refine below_ov ?_ ?_) | (with_reducible refine Below.setCell ?_ ?_ _) | (with_reducible refine Below.alloc ?_ ?_ _) | (with_reducible refine Below.drew ?_) | (with_reducible refine below_drewN ?_ _) | (refine Below.trans ?_ (Below.mono ‹Below _ _ _› (by first | omega | (simp; done) | (simp; omega)))) | exact Below.refl _ _ | omega | (focus (simp; done)) | (focus (simp; omega)))) hhi) (by simp [ov]; omega) HB.out)) | (go_at_call 40; exact quiet_ov (cyAfter_any T.v T.lb (tmR T) (k - T.lm) _ (by omega) (by omega) (by omega) (by omega) (by omega) (by omega) (by omega) (by omega))))) | quiet_step ((first | (go_at_call 27; exact quiet_ov (enRate_any T lo hi vc _ (hs.below (B := w.heap.size) (by repeat (first | (with_reducible exact Below.refl _ _) | (with_reducible refine below_ov ?_ ?_) | (with_reducible refine Below.setCell ?_ ?_ _) | (with_reducible refine Below.alloc ?_ ?_ _) | (with_reducible refine Below.drew ?_) | (with_reducible refine below_drewN ?_ _) | (refine Below.trans ?_ (Below.mono ‹Below _ _ _› (by first | omega | (simp; done) | (simp; omega)))) | exact Below.refl _ _ | omega | (focus (simp; done)) | (focus (simp; omega)))) hhi) (by simp [ov]; omega) HB.out)) | (go_at_call 40; exact quiet_ov (cyAfter_any T.v T.lb (tmR T) (k - T.lm) _ (by omega) (by omega) (by omega) (by omega) (by omega) (by omega) (by omega) (by omega))))))); refine wpQuiet_nil ?_; intro w3 hb3; have hz3 := hb3.size; (try (simp at hz3)); obtain ⟨hcw3, hfw3⟩ := bcell hb3; (try (have hy3 : w.heap.size < w3.heap.size := by omega)); (try (have hyy3 : w.heap.size + 1 < w3.heap.size := by omega)))
        go_wp2_with fail
        go_ret2
        exact ⟨ret_ib HE.out.1.symm HE.out.2.symm, (by repeat (first | (with_reducible exact Below.refl _ _) | (with_reducible refine below_ov ?_ ?_) | (with_reducible refine Below.setCell ?_ ?_ _) | (with_reducible refine Below.alloc ?_ ?_ _) | (with_reducible refine Below.drew ?_) | (with_reducible refine below_drewN ?_ _) | (refine Below.trans ?_ (Below.mono ‹Below _ _ _› (by first | omega | (simp; done) | (simp; omega)))) | exact Below.refl _ _ | omega | (focus (simp; done)) | (focus (simp; omega))))⟩

end Go.Proofs.Ythkddbonmfoaaaa
