/-
  Texts of this proof, one behind the other (part 11).
-/
import Derived.Test.YthchfnkljmoenaaQ10
/-
  Walks: the exported functions on who is due and when to relieve.-/
namespace Go.Proofs.Ythchfnkljmoenaa
set_option linter.unusedVariables false
set_option linter.unusedSimpArgs false
open Go.RowKit

def dueOk (c : Nat → ByteArray) (a b : Nat → Int) (n : Nat) (s : ByteArray) (m q : Int) : Bool := askP c a b n s m && inB q 1 720
def dueR (c : Nat → ByteArray) (a b : Nat → Int) (n : Nat) (s : ByteArray) (m q : Int) : Bool := dueOk c a b n s m q && dueB c a b s m n q
theorem ret_bb {a b c d : Bool} (h : a = c) (h' : b = d) : Ending.returned (.tuple #[.bool a, .bool b]) = .returned (.tuple #[.bool c, .bool d]) := by rw [h, h']
set_option maxRecDepth 100000 in
set_option maxHeartbeats 1600000 in
theorem IsDue_impl (c : Nat → ByteArray) (a b : Nat → Int) (n : Nat) (s : ByteArray) (m q : Int) (lo hi : Nat) (v : Value) (w : World) (hv : Sl w lo hi 3 v n (siiC c a b)) (hhi : hi ≤ w.heap.size) (hf : pfits c n) (hs : s.size ≤ maxLen) :
    Calls Try.prog 15 #[v, .string s, .int .i64 m, .int .i64 q] w fun e w' => e = .returned (.tuple #[.bool (dueR c a b n s m q), .bool (dueOk c a b n s m q)]) ∧ Below w.heap.size w w' := by
  cases hc1_0 : pdB c a b n with
  | false =>
    have HX : Hid (dueOk c a b n s m q = false) := by show _ = _; simp [dueOk, askP, *]
    go_enter Try.func15, Try.ntmps15
    go_wp2_with (first | (go_at_call 30; refine (arePeriods_any c a b n lo hi _ _ hv hhi hf).mono ?_; rintro e w1 ⟨rfl, hb1⟩; have hz1 := hb1.size; (try (simp at hz1)); obtain ⟨hcw1, hfw1⟩ := bcell hb1; (try (have hy1 : w.heap.size < w1.heap.size := by omega)); (try (have hyy1 : w.heap.size + 1 < w1.heap.size := by omega)); (try (have hyyy1 : w.heap.size + 1 + 1 < w1.heap.size := by omega))) | (go_at_call 31; refine (isName_any _ _ hs).mono ?_; rintro e w2 ⟨rfl, hd2⟩; obtain ⟨n2, rfl⟩ := hd2) | (go_at_call 32; refine (isMinute_any _ _).mono ?_; rintro e w' ⟨rfl, rfl⟩) | (go_at_call 33; refine (inside_any _ _ _ _).mono ?_; rintro e w' ⟨rfl, rfl⟩))
    go_ret2
    exact ⟨ret_bb (by rw [dueR, HX.out]; rfl) HX.out.symm, (by repeat (first | (with_reducible exact Below.refl _ _) | (with_reducible refine below_ov ?_ ?_) | (with_reducible refine Below.setCell ?_ ?_ _) | (with_reducible refine Below.alloc ?_ ?_ _) | (with_reducible refine Below.drew ?_) | (with_reducible refine below_drewN ?_ _) | (refine Below.trans ?_ (Below.mono ‹Below _ _ _› (by first | omega | (simp; done) | (simp; omega)))) | exact Below.refl _ _ | omega | (focus (simp; done)) | (focus (simp; omega))))⟩
  | true =>
    cases hc1_1 : nameB s with
    | false =>
      have HX : Hid (dueOk c a b n s m q = false) := by show _ = _; simp [dueOk, askP, *]
      go_enter Try.func15, Try.ntmps15
      go_wp2_with (first | (go_at_call 30; refine (arePeriods_any c a b n lo hi _ _ hv hhi hf).mono ?_; rintro e w1 ⟨rfl, hb1⟩; have hz1 := hb1.size; (try (simp at hz1)); obtain ⟨hcw1, hfw1⟩ := bcell hb1; (try (have hy1 : w.heap.size < w1.heap.size := by omega)); (try (have hyy1 : w.heap.size + 1 < w1.heap.size := by omega)); (try (have hyyy1 : w.heap.size + 1 + 1 < w1.heap.size := by omega))) | (go_at_call 31; refine (isName_any _ _ hs).mono ?_; rintro e w2 ⟨rfl, hd2⟩; obtain ⟨n2, rfl⟩ := hd2) | (go_at_call 32; refine (isMinute_any _ _).mono ?_; rintro e w' ⟨rfl, rfl⟩) | (go_at_call 33; refine (inside_any _ _ _ _).mono ?_; rintro e w' ⟨rfl, rfl⟩))
      go_ret2
      exact ⟨ret_bb (by rw [dueR, HX.out]; rfl) HX.out.symm, (by repeat (first | (with_reducible exact Below.refl _ _) | (with_reducible refine below_ov ?_ ?_) | (with_reducible refine Below.setCell ?_ ?_ _) | (with_reducible refine Below.alloc ?_ ?_ _) | (with_reducible refine Below.drew ?_) | (with_reducible refine below_drewN ?_ _) | (refine Below.trans ?_ (Below.mono ‹Below _ _ _› (by first | omega | (simp; done) | (simp; omega)))) | exact Below.refl _ _ | omega | (focus (simp; done)) | (focus (simp; omega))))⟩
    | true =>
      cases hc1_2 : inB m 0 9999 with
      | false =>
        have HX : Hid (dueOk c a b n s m q = false) := by show _ = _; simp [dueOk, askP, *]
        go_enter Try.func15, Try.ntmps15
        go_wp2_with (first | (go_at_call 30; refine (arePeriods_any c a b n lo hi _ _ hv hhi hf).mono ?_; rintro e w1 ⟨rfl, hb1⟩; have hz1 := hb1.size; (try (simp at hz1)); obtain ⟨hcw1, hfw1⟩ := bcell hb1; (try (have hy1 : w.heap.size < w1.heap.size := by omega)); (try (have hyy1 : w.heap.size + 1 < w1.heap.size := by omega)); (try (have hyyy1 : w.heap.size + 1 + 1 < w1.heap.size := by omega))) | (go_at_call 31; refine (isName_any _ _ hs).mono ?_; rintro e w2 ⟨rfl, hd2⟩; obtain ⟨n2, rfl⟩ := hd2) | (go_at_call 32; refine (isMinute_any _ _).mono ?_; rintro e w' ⟨rfl, rfl⟩) | (go_at_call 33; refine (inside_any _ _ _ _).mono ?_; rintro e w' ⟨rfl, rfl⟩))
        go_ret2
        exact ⟨ret_bb (by rw [dueR, HX.out]; rfl) HX.out.symm, (by repeat (first | (with_reducible exact Below.refl _ _) | (with_reducible refine below_ov ?_ ?_) | (with_reducible refine Below.setCell ?_ ?_ _) | (with_reducible refine Below.alloc ?_ ?_ _) | (with_reducible refine Below.drew ?_) | (with_reducible refine below_drewN ?_ _) | (refine Below.trans ?_ (Below.mono ‹Below _ _ _› (by first | omega | (simp; done) | (simp; omega)))) | exact Below.refl _ _ | omega | (focus (simp; done)) | (focus (simp; omega))))⟩
      | true =>
        obtain ⟨hc1_2l, hc1_2r⟩ := inB_iff.1 hc1_2
        cases hc1_3 : inB q 1 720 with
        | false =>
          have HX : Hid (dueOk c a b n s m q = false) := by show _ = _; simp [dueOk, askP, *]
          go_enter Try.func15, Try.ntmps15
          go_wp2_with (first | (go_at_call 30; refine (arePeriods_any c a b n lo hi _ _ hv hhi hf).mono ?_; rintro e w1 ⟨rfl, hb1⟩; have hz1 := hb1.size; (try (simp at hz1)); obtain ⟨hcw1, hfw1⟩ := bcell hb1; (try (have hy1 : w.heap.size < w1.heap.size := by omega)); (try (have hyy1 : w.heap.size + 1 < w1.heap.size := by omega)); (try (have hyyy1 : w.heap.size + 1 + 1 < w1.heap.size := by omega))) | (go_at_call 31; refine (isName_any _ _ hs).mono ?_; rintro e w2 ⟨rfl, hd2⟩; obtain ⟨n2, rfl⟩ := hd2) | (go_at_call 32; refine (isMinute_any _ _).mono ?_; rintro e w' ⟨rfl, rfl⟩) | (go_at_call 33; refine (inside_any _ _ _ _).mono ?_; rintro e w' ⟨rfl, rfl⟩))
          go_ret2
          exact ⟨ret_bb (by rw [dueR, HX.out]; rfl) HX.out.symm, (by repeat (first | (with_reducible exact Below.refl _ _) | (with_reducible refine below_ov ?_ ?_) | (with_reducible refine Below.setCell ?_ ?_ _) | (with_reducible refine Below.alloc ?_ ?_ _) | (with_reducible refine Below.drew ?_) | (with_reducible refine below_drewN ?_ _) | (refine Below.trans ?_ (Below.mono ‹Below _ _ _› (by first | omega | (simp; done) | (simp; omega)))) | exact Below.refl _ _ | omega | (focus (simp; done)) | (focus (simp; omega))))⟩
        | true =>
          obtain ⟨hc1_3l, hc1_3r⟩ := inB_iff.1 hc1_3
          have HX : Hid (dueOk c a b n s m q = true) := by show _ = _; simp [dueOk, askP, *]
          have HP : Hid (pdB c a b n = true) := by show _ = _; assumption
          go_enter Try.func15, Try.ntmps15
          go_wp2_with (first | (go_at_call 30; refine (arePeriods_any c a b n lo hi _ _ hv hhi hf).mono ?_; rintro e w1 ⟨rfl, hb1⟩; have hz1 := hb1.size; (try (simp at hz1)); obtain ⟨hcw1, hfw1⟩ := bcell hb1; (try (have hy1 : w.heap.size < w1.heap.size := by omega)); (try (have hyy1 : w.heap.size + 1 < w1.heap.size := by omega)); (try (have hyyy1 : w.heap.size + 1 + 1 < w1.heap.size := by omega))) | (go_at_call 31; refine (isName_any _ _ hs).mono ?_; rintro e w2 ⟨rfl, hd2⟩; obtain ⟨n2, rfl⟩ := hd2) | (go_at_call 32; refine (isMinute_any _ _).mono ?_; rintro e w' ⟨rfl, rfl⟩) | (go_at_call 33; refine (inside_any _ _ _ _).mono ?_; rintro e w' ⟨rfl, rfl⟩))
          refine (isDue_any c a b n s m q lo hi _ _ (hv.below (B := w.heap.size) (by repeat (first | (with_reducible exact Below.refl _ _) | (with_reducible refine below_ov ?_ ?_) | (with_reducible refine Below.setCell ?_ ?_ _) | (with_reducible refine Below.alloc ?_ ?_ _) | (with_reducible refine Below.drew ?_) | (with_reducible refine below_drewN ?_ _) | (refine Below.trans ?_ (Below.mono ‹Below _ _ _› (by first | omega | (simp; done) | (simp; omega)))) | exact Below.refl _ _ | omega | (focus (simp; done)) | (focus (simp; omega)))) hhi) (by first | omega | (simp; done) | (simp; omega)) hf.1 HP.out (by omega) (by omega)).mono ?_
          rintro e w3 ⟨rfl, hb3⟩
          have hz3 := hb3.size
          go_wp2_with fail
          go_ret2
          exact ⟨ret_bb (by rw [dueR, HX.out]; rfl) HX.out.symm, (by repeat (first | (with_reducible exact Below.refl _ _) | (with_reducible refine below_ov ?_ ?_) | (with_reducible refine Below.setCell ?_ ?_ _) | (with_reducible refine Below.alloc ?_ ?_ _) | (with_reducible refine Below.drew ?_) | (with_reducible refine below_drewN ?_ _) | (refine Below.trans ?_ (Below.mono ‹Below _ _ _› (by first | omega | (simp; done) | (simp; omega)))) | exact Below.refl _ _ | omega | (focus (simp; done)) | (focus (simp; omega))))⟩
set_option maxRecDepth 100000 in
set_option maxHeartbeats 1600000 in
theorem IsDue_spec (c : Nat → ByteArray) (a b : Nat → Int) (n : Nat) (s : ByteArray) (m q : Int) (lo hi : Nat) (v : Value) (w : World) (hv : Sl w lo hi 3 v n (siiC c a b)) (hhi : hi ≤ w.heap.size) (hf : pfits c n) (hs : s.size ≤ maxLen) :
    Calls Try.prog 16 #[v, .string s, .int .i64 m, .int .i64 q] w fun e w' => e = .returned (.tuple #[.bool (dueR c a b n s m q), .bool (dueOk c a b n s m q)]) ∧ Below w.heap.size w w' := by
  cases hc2_0 : askP c a b n s m with
  | false =>
    have HX : Hid (dueOk c a b n s m q = false) := by show _ = _; simp [dueOk, *]
    go_enter Try.func16, Try.ntmps16
    go_wp2_with (first | (go_at_call 34; refine (rfAsked_any c a b n s m lo hi _ _ hv hhi hf hs).mono ?_; rintro e w1 ⟨rfl, hb1⟩; have hz1 := hb1.size; (try (simp at hz1)); obtain ⟨hcw1, hfw1⟩ := bcell hb1; (try (have hy1 : w.heap.size < w1.heap.size := by omega)); (try (have hyy1 : w.heap.size + 1 < w1.heap.size := by omega)); (try (have hyyy1 : w.heap.size + 1 + 1 < w1.heap.size := by omega))) | (go_at_call 49; refine (rfMost_any _ _).mono ?_; rintro e w' ⟨rfl, rfl⟩))
    go_ret2
    exact ⟨ret_bb (by rw [dueR, HX.out]; rfl) HX.out.symm, (by repeat (first | (with_reducible exact Below.refl _ _) | (with_reducible refine below_ov ?_ ?_) | (with_reducible refine Below.setCell ?_ ?_ _) | (with_reducible refine Below.alloc ?_ ?_ _) | (with_reducible refine Below.drew ?_) | (with_reducible refine below_drewN ?_ _) | (refine Below.trans ?_ (Below.mono ‹Below _ _ _› (by first | omega | (simp; done) | (simp; omega)))) | exact Below.refl _ _ | omega | (focus (simp; done)) | (focus (simp; omega))))⟩
  | true =>
    cases hc2_1 : inB q 1 720 with
    | false =>
      have HX : Hid (dueOk c a b n s m q = false) := by show _ = _; simp [dueOk, *]
      go_enter Try.func16, Try.ntmps16
      go_wp2_with (first | (go_at_call 34; refine (rfAsked_any c a b n s m lo hi _ _ hv hhi hf hs).mono ?_; rintro e w1 ⟨rfl, hb1⟩; have hz1 := hb1.size; (try (simp at hz1)); obtain ⟨hcw1, hfw1⟩ := bcell hb1; (try (have hy1 : w.heap.size < w1.heap.size := by omega)); (try (have hyy1 : w.heap.size + 1 < w1.heap.size := by omega)); (try (have hyyy1 : w.heap.size + 1 + 1 < w1.heap.size := by omega))) | (go_at_call 49; refine (rfMost_any _ _).mono ?_; rintro e w' ⟨rfl, rfl⟩))
      go_ret2
      exact ⟨ret_bb (by rw [dueR, HX.out]; rfl) HX.out.symm, (by repeat (first | (with_reducible exact Below.refl _ _) | (with_reducible refine below_ov ?_ ?_) | (with_reducible refine Below.setCell ?_ ?_ _) | (with_reducible refine Below.alloc ?_ ?_ _) | (with_reducible refine Below.drew ?_) | (with_reducible refine below_drewN ?_ _) | (refine Below.trans ?_ (Below.mono ‹Below _ _ _› (by first | omega | (simp; done) | (simp; omega)))) | exact Below.refl _ _ | omega | (focus (simp; done)) | (focus (simp; omega))))⟩
    | true =>
      obtain ⟨hc2_1l, hc2_1r⟩ := inB_iff.1 hc2_1
      have HX : Hid (dueOk c a b n s m q = true) := by show _ = _; simp [dueOk, *]
      have hx : askP c a b n s m = true := by assumption
      have HP := hide (ask_facts hx).1
      have hm := (ask_facts hx).2
      clear hx
      go_enter Try.func16, Try.ntmps16
      go_wp2_with (first | (go_at_call 34; refine (rfAsked_any c a b n s m lo hi _ _ hv hhi hf hs).mono ?_; rintro e w1 ⟨rfl, hb1⟩; have hz1 := hb1.size; (try (simp at hz1)); obtain ⟨hcw1, hfw1⟩ := bcell hb1; (try (have hy1 : w.heap.size < w1.heap.size := by omega)); (try (have hyy1 : w.heap.size + 1 < w1.heap.size := by omega)); (try (have hyyy1 : w.heap.size + 1 + 1 < w1.heap.size := by omega))) | (go_at_call 49; refine (rfMost_any _ _).mono ?_; rintro e w' ⟨rfl, rfl⟩))
      refine (rfDue_any c a b n s m q lo hi _ _ (hv.below (B := w.heap.size) (by repeat (first | (with_reducible exact Below.refl _ _) | (with_reducible refine below_ov ?_ ?_) | (with_reducible refine Below.setCell ?_ ?_ _) | (with_reducible refine Below.alloc ?_ ?_ _) | (with_reducible refine Below.drew ?_) | (with_reducible refine below_drewN ?_ _) | (refine Below.trans ?_ (Below.mono ‹Below _ _ _› (by first | omega | (simp; done) | (simp; omega)))) | exact Below.refl _ _ | omega | (focus (simp; done)) | (focus (simp; omega)))) hhi) (by first | omega | (simp; done) | (simp; omega)) hf.1 HP.out (by omega) (by omega)).mono ?_
      rintro e w3 ⟨rfl, hb3⟩
      have hz3 := hb3.size
      go_wp2_with fail
      go_ret2
      exact ⟨ret_bb (by rw [dueR, HX.out]; rfl) HX.out.symm, (by repeat (first | (with_reducible exact Below.refl _ _) | (with_reducible refine below_ov ?_ ?_) | (with_reducible refine Below.setCell ?_ ?_ _) | (with_reducible refine Below.alloc ?_ ?_ _) | (with_reducible refine Below.drew ?_) | (with_reducible refine below_drewN ?_ _) | (refine Below.trans ?_ (Below.mono ‹Below _ _ _› (by first | omega | (simp; done) | (simp; omega)))) | exact Below.refl _ _ | omega | (focus (simp; done)) | (focus (simp; omega))))⟩
def nxP (c : Nat → ByteArray) (a b : Nat → Int) (n : Nat) (s : ByteArray) (q : Int) : Bool := pdB c a b n && nameB s && inB q 1 720
def nxOk (c : Nat → ByteArray) (a b : Nat → Int) (n : Nat) (s : ByteArray) (q : Int) : Bool := nxP c a b n s q && nrB c a b s n
def nxR (c : Nat → ByteArray) (a b : Nat → Int) (n : Nat) (s : ByteArray) (q : Int) : Int := if nxOk c a b n s q = true then nrS c a b s n + q else 0
set_option maxRecDepth 100000 in
set_option maxHeartbeats 1600000 in
theorem NextRelief_spec (c : Nat → ByteArray) (a b : Nat → Int) (n : Nat) (s : ByteArray) (q : Int) (lo hi : Nat) (v : Value) (w : World) (hv : Sl w lo hi 3 v n (siiC c a b)) (hhi : hi ≤ w.heap.size) (hf : pfits c n) (hs : s.size ≤ maxLen) :
    Calls Try.prog 27 #[v, .string s, .int .i64 q] w fun e w' => e = .returned (.tuple #[.int .i64 (nxR c a b n s q), .bool (nxOk c a b n s q)]) ∧ Below w.heap.size w w' := by
  obtain ⟨A, cap, rfl, hcap, hA⟩ := hv.open_
  have hn := hf.1
  cases hc3_0 : pdB c a b n with
  | false =>
    have HX : Hid (nxOk c a b n s q = false) := by show _ = _; simp [nxOk, nxP, *]
    go_enter Try.func27, Try.ntmps27
    go_wp2_with (first | (go_at_call 40; refine (rfGood_any c a b n lo hi _ _ hv hhi hf).mono ?_; rintro e w1 ⟨rfl, hb1⟩; have hz1 := hb1.size; (try (simp at hz1)); obtain ⟨hcw1, hfw1⟩ := bcell hb1; (try (have hy1 : w.heap.size < w1.heap.size := by omega)); (try (have hyy1 : w.heap.size + 1 < w1.heap.size := by omega)); (try (have hyyy1 : w.heap.size + 1 + 1 < w1.heap.size := by omega))) | (go_at_call 58; refine (apName_any _ _ hs).mono ?_; rintro e w2 ⟨rfl, hd2⟩; obtain ⟨n2, rfl⟩ := hd2) | (go_at_call 49; refine (rfMost_any _ _).mono ?_; rintro e w' ⟨rfl, rfl⟩))
    go_ret2
    exact ⟨ret_ib (by rw [nxR, HX.out]; rfl) HX.out.symm, (by repeat (first | (with_reducible exact Below.refl _ _) | (with_reducible refine below_ov ?_ ?_) | (with_reducible refine Below.setCell ?_ ?_ _) | (with_reducible refine Below.alloc ?_ ?_ _) | (with_reducible refine Below.drew ?_) | (with_reducible refine below_drewN ?_ _) | (refine Below.trans ?_ (Below.mono ‹Below _ _ _› (by first | omega | (simp; done) | (simp; omega)))) | exact Below.refl _ _ | omega | (focus (simp; done)) | (focus (simp; omega))))⟩
  | true =>
    cases hc3_1 : nameB s with
    | false =>
      have HX : Hid (nxOk c a b n s q = false) := by show _ = _; simp [nxOk, nxP, *]
      go_enter Try.func27, Try.ntmps27
      go_wp2_with (first | (go_at_call 40; refine (rfGood_any c a b n lo hi _ _ hv hhi hf).mono ?_; rintro e w1 ⟨rfl, hb1⟩; have hz1 := hb1.size; (try (simp at hz1)); obtain ⟨hcw1, hfw1⟩ := bcell hb1; (try (have hy1 : w.heap.size < w1.heap.size := by omega)); (try (have hyy1 : w.heap.size + 1 < w1.heap.size := by omega)); (try (have hyyy1 : w.heap.size + 1 + 1 < w1.heap.size := by omega))) | (go_at_call 58; refine (apName_any _ _ hs).mono ?_; rintro e w2 ⟨rfl, hd2⟩; obtain ⟨n2, rfl⟩ := hd2) | (go_at_call 49; refine (rfMost_any _ _).mono ?_; rintro e w' ⟨rfl, rfl⟩))
      go_ret2
      exact ⟨ret_ib (by rw [nxR, HX.out]; rfl) HX.out.symm, (by repeat (first | (with_reducible exact Below.refl _ _) | (with_reducible refine below_ov ?_ ?_) | (with_reducible refine Below.setCell ?_ ?_ _) | (with_reducible refine Below.alloc ?_ ?_ _) | (with_reducible refine Below.drew ?_) | (with_reducible refine below_drewN ?_ _) | (refine Below.trans ?_ (Below.mono ‹Below _ _ _› (by first | omega | (simp; done) | (simp; omega)))) | exact Below.refl _ _ | omega | (focus (simp; done)) | (focus (simp; omega))))⟩
    | true =>
      cases hc3_2 : inB q 1 720 with
      | false =>
        have HX : Hid (nxOk c a b n s q = false) := by show _ = _; simp [nxOk, nxP, *]
        go_enter Try.func27, Try.ntmps27
        go_wp2_with (first | (go_at_call 40; refine (rfGood_any c a b n lo hi _ _ hv hhi hf).mono ?_; rintro e w1 ⟨rfl, hb1⟩; have hz1 := hb1.size; (try (simp at hz1)); obtain ⟨hcw1, hfw1⟩ := bcell hb1; (try (have hy1 : w.heap.size < w1.heap.size := by omega)); (try (have hyy1 : w.heap.size + 1 < w1.heap.size := by omega)); (try (have hyyy1 : w.heap.size + 1 + 1 < w1.heap.size := by omega))) | (go_at_call 58; refine (apName_any _ _ hs).mono ?_; rintro e w2 ⟨rfl, hd2⟩; obtain ⟨n2, rfl⟩ := hd2) | (go_at_call 49; refine (rfMost_any _ _).mono ?_; rintro e w' ⟨rfl, rfl⟩))
        go_ret2
        exact ⟨ret_ib (by rw [nxR, HX.out]; rfl) HX.out.symm, (by repeat (first | (with_reducible exact Below.refl _ _) | (with_reducible refine below_ov ?_ ?_) | (with_reducible refine Below.setCell ?_ ?_ _) | (with_reducible refine Below.alloc ?_ ?_ _) | (with_reducible refine Below.drew ?_) | (with_reducible refine below_drewN ?_ _) | (refine Below.trans ?_ (Below.mono ‹Below _ _ _› (by first | omega | (simp; done) | (simp; omega)))) | exact Below.refl _ _ | omega | (focus (simp; done)) | (focus (simp; omega))))⟩
      | true =>
        obtain ⟨hc3_2l, hc3_2r⟩ := inB_iff.1 hc3_2
        have HX : Hid (nxP c a b n s q = true) := by show _ = _; simp [nxP, *]
        have HP : Hid (pdB c a b n = true) := by show _ = _; assumption
        go_enter Try.func27, Try.ntmps27
        go_wp2_with (first | (go_at_call 40; refine (rfGood_any c a b n lo hi _ _ hv hhi hf).mono ?_; rintro e w1 ⟨rfl, hb1⟩; have hz1 := hb1.size; (try (simp at hz1)); obtain ⟨hcw1, hfw1⟩ := bcell hb1; (try (have hy1 : w.heap.size < w1.heap.size := by omega)); (try (have hyy1 : w.heap.size + 1 < w1.heap.size := by omega)); (try (have hyyy1 : w.heap.size + 1 + 1 < w1.heap.size := by omega))) | (go_at_call 58; refine (apName_any _ _ hs).mono ?_; rintro e w2 ⟨rfl, hd2⟩; obtain ⟨n2, rfl⟩ := hd2) | (go_at_call 49; refine (rfMost_any _ _).mono ?_; rintro e w' ⟨rfl, rfl⟩))
        have hb0 : Below w.heap.size w (w1.drewN n2) := (by repeat (first | (with_reducible exact Below.refl _ _) | (with_reducible refine below_ov ?_ ?_) | (with_reducible refine Below.setCell ?_ ?_ _) | (with_reducible refine Below.alloc ?_ ?_ _) | (with_reducible refine Below.drew ?_) | (with_reducible refine below_drewN ?_ _) | (refine Below.trans ?_ (Below.mono ‹Below _ _ _› (by first | omega | (simp; done) | (simp; omega)))) | exact Below.refl _ _ | omega | (focus (simp; done)) | (focus (simp; omega))))
        go_loopw [8, 26] (fun x i wr => ∃ k : Nat, k ≤ n ∧ i = .int .i64 k ∧ x = .int .i64 (lstI (crewI c s) k) ∧ Below w.heap.size w wr) (fun _ i _ => n - (intOf i).toNat)
        case atStart => exact ⟨0, by omega, rfl, rfl, hb0⟩
        case round =>
          obtain ⟨k, hk, rfl, rfl, hb⟩ := hrel
          have hzr := hb.size
          by_cases hkn : k < n
          · obtain ⟨blk, off, rfl, h1, h2, h3⟩ := (hA.below hb (by omega)) (by omega)
            have c0 : wr.cell? ⟨blk, off + k * 3, none⟩ = some (.string (c k)) := h3 k 0 hkn (by omega)
            have c1 : wr.cell? ⟨blk, off + k * 3 + 1, none⟩ = some (.int .i64 (a k)) := h3 k 1 hkn (by omega)
            have c2 : wr.cell? ⟨blk, off + k * 3 + 2, none⟩ = some (.int .i64 (b k)) := h3 k 2 hkn (by omega)
            clear h3 hA
            cases e0 : ((c k).toList == s.toList) with
            | false =>
              have HG : Hid (lstI (crewI c s) (k + 1) = lstI (crewI c s) k) := by show _ = _; rw [str_beq] at e0; rw [lstI, if_neg (by simp [crewI]; exact of_decide_eq_false e0)]
              go_wp2_with fail
              go_roundw
              case rel => exact ⟨k + 1, by omega, by go_num, by rw [HG.out], (by repeat (first | (with_reducible exact Below.refl _ _) | (with_reducible refine below_ov ?_ ?_) | (with_reducible refine Below.setCell ?_ ?_ _) | (with_reducible refine Below.alloc ?_ ?_ _) | (with_reducible refine Below.drew ?_) | (with_reducible refine below_drewN ?_ _) | (refine Below.trans ?_ (Below.mono ‹Below _ _ _› (by first | omega | (simp; done) | (simp; omega)))) | exact Below.refl _ _ | omega | (focus (simp; done)) | (focus (simp; omega))))⟩
              case measure => simp [intOf]; omega
            | true =>
              have HG : Hid (lstI (crewI c s) (k + 1) = k) := by show _ = _; rw [str_beq] at e0; rw [lstI, if_pos (by simp [crewI]; exact of_decide_eq_true e0)]
              go_wp2_with fail
              go_roundw
              case rel => exact ⟨k + 1, by omega, by go_num, by rw [HG.out], (by repeat (first | (with_reducible exact Below.refl _ _) | (with_reducible refine below_ov ?_ ?_) | (with_reducible refine Below.setCell ?_ ?_ _) | (with_reducible refine Below.alloc ?_ ?_ _) | (with_reducible refine Below.drew ?_) | (with_reducible refine below_drewN ?_ _) | (refine Below.trans ?_ (Below.mono ‹Below _ _ _› (by first | omega | (simp; done) | (simp; omega)))) | exact Below.refl _ _ | omega | (focus (simp; done)) | (focus (simp; omega))))⟩
              case measure => simp [intOf]; omega
          · obtain rfl : k = n := by omega
            have hnr := nr_eq (s := s) HP.out k (Nat.le_refl _)
            by_cases hl : lstI (crewI c s) k < 0
            · have HR : Hid (nxR c a b k s q = 0 ∧ nxOk c a b k s q = false) := by
                have h1 : nxOk c a b k s q = false := by rw [nxOk, (hnr.1 hl).2]; simp
                exact ⟨by rw [nxR, h1]; rfl, h1⟩
              clear hnr
              go_wp2_with fail
              go_ret2
              exact ⟨ret_ib HR.out.1.symm HR.out.2.symm, hb⟩
            · obtain ⟨j, hj⟩ : ∃ j : Nat, lstI (crewI c s) k = j := ⟨(lstI (crewI c s) k).toNat, by omega⟩
              have hjk : j < k := by have := (lstI_bd (crewI c s) k).2; omega
              have hst := st_bd (i := j) HP.out j hjk
              have hpj := (perB_iff.1 ((pd_facts HP.out).2 j hjk).1).2
              have HR : Hid (nxR c a b k s q = stF c a b j + q ∧ nxOk c a b k s q = true) := by
                have h0 := hnr.2 (by omega)
                rw [hj, Int.toNat_natCast] at h0
                have h1 : nxOk c a b k s q = true := by rw [nxOk, h0.2, HX.out]; rfl
                exact ⟨by rw [nxR, h1, if_pos rfl, h0.1], h1⟩
              rw [hj]
              clear hnr hl hj
              have q0 : ¬ (j : Int) < 0 := by omega
              go_wp2_with (go_at_call 59; refine (rfStart_any c a b k j lo hi _ _ (hv.below (B := w.heap.size) (by repeat (first | (with_reducible exact Below.refl _ _) | (with_reducible refine below_ov ?_ ?_) | (with_reducible refine Below.setCell ?_ ?_ _) | (with_reducible refine Below.alloc ?_ ?_ _) | (with_reducible refine Below.drew ?_) | (with_reducible refine below_drewN ?_ _) | (refine Below.trans ?_ (Below.mono ‹Below _ _ _› (by first | omega | (simp; done) | (simp; omega)))) | exact Below.refl _ _ | omega | (focus (simp; done)) | (focus (simp; omega)))) hhi) (by omega) hn HP.out hjk).mono ?_; rintro e w5 ⟨rfl, hb5⟩; have hz5 := hb5.size; (try (simp at hz5)); obtain ⟨hcw5, hfw5⟩ := bcell hb5; (try (have hy5 : w.heap.size < w5.heap.size := by omega)); (try (have hyy5 : w.heap.size + 1 < w5.heap.size := by omega)); (try (have hyyy5 : w.heap.size + 1 + 1 < w5.heap.size := by omega)))
              go_ret2
              exact ⟨ret_ib HR.out.1.symm HR.out.2.symm, (by repeat (first | (with_reducible exact Below.refl _ _) | (with_reducible refine below_ov ?_ ?_) | (with_reducible refine Below.setCell ?_ ?_ _) | (with_reducible refine Below.alloc ?_ ?_ _) | (with_reducible refine Below.drew ?_) | (with_reducible refine below_drewN ?_ _) | (refine Below.trans ?_ (Below.mono ‹Below _ _ _› (by first | omega | (simp; done) | (simp; omega)))) | exact Below.refl _ _ | omega | (focus (simp; done)) | (focus (simp; omega))))⟩
set_option maxRecDepth 100000 in
set_option maxHeartbeats 1600000 in
theorem NextRelief_impl (c : Nat → ByteArray) (a b : Nat → Int) (n : Nat) (s : ByteArray) (q : Int) (lo hi : Nat) (v : Value) (w : World) (hv : Sl w lo hi 3 v n (siiC c a b)) (hhi : hi ≤ w.heap.size) (hf : pfits c n) (hs : s.size ≤ maxLen) :
    Calls Try.prog 26 #[v, .string s, .int .i64 q] w fun e w' => e = .returned (.tuple #[.int .i64 (nxR c a b n s q), .bool (nxOk c a b n s q)]) ∧ Below w.heap.size w w' := by
  obtain ⟨A, cap, rfl, hcap, hA⟩ := hv.open_
  have hn := hf.1
  cases hc4_0 : pdB c a b n with
  | false =>
    have HX : Hid (nxOk c a b n s q = false) := by show _ = _; simp [nxOk, nxP, *]
    go_enter Try.func26, Try.ntmps26
    go_wp2_with (first | (go_at_call 30; refine (arePeriods_any c a b n lo hi _ _ hv hhi hf).mono ?_; rintro e w1 ⟨rfl, hb1⟩; have hz1 := hb1.size; (try (simp at hz1)); obtain ⟨hcw1, hfw1⟩ := bcell hb1; (try (have hy1 : w.heap.size < w1.heap.size := by omega)); (try (have hyy1 : w.heap.size + 1 < w1.heap.size := by omega)); (try (have hyyy1 : w.heap.size + 1 + 1 < w1.heap.size := by omega))) | (go_at_call 31; refine (isName_any _ _ hs).mono ?_; rintro e w2 ⟨rfl, hd2⟩; obtain ⟨n2, rfl⟩ := hd2) | (go_at_call 33; refine (inside_any _ _ _ _).mono ?_; rintro e w' ⟨rfl, rfl⟩))
    go_ret2
    exact ⟨ret_ib (by rw [nxR, HX.out]; rfl) HX.out.symm, (by repeat (first | (with_reducible exact Below.refl _ _) | (with_reducible refine below_ov ?_ ?_) | (with_reducible refine Below.setCell ?_ ?_ _) | (with_reducible refine Below.alloc ?_ ?_ _) | (with_reducible refine Below.drew ?_) | (with_reducible refine below_drewN ?_ _) | (refine Below.trans ?_ (Below.mono ‹Below _ _ _› (by first | omega | (simp; done) | (simp; omega)))) | exact Below.refl _ _ | omega | (focus (simp; done)) | (focus (simp; omega))))⟩
  | true =>
    cases hc4_1 : nameB s with
    | false =>
      have HX : Hid (nxOk c a b n s q = false) := by show _ = _; simp [nxOk, nxP, *]
      go_enter Try.func26, Try.ntmps26
      go_wp2_with (first | (go_at_call 30; refine (arePeriods_any c a b n lo hi _ _ hv hhi hf).mono ?_; rintro e w1 ⟨rfl, hb1⟩; have hz1 := hb1.size; (try (simp at hz1)); obtain ⟨hcw1, hfw1⟩ := bcell hb1; (try (have hy1 : w.heap.size < w1.heap.size := by omega)); (try (have hyy1 : w.heap.size + 1 < w1.heap.size := by omega)); (try (have hyyy1 : w.heap.size + 1 + 1 < w1.heap.size := by omega))) | (go_at_call 31; refine (isName_any _ _ hs).mono ?_; rintro e w2 ⟨rfl, hd2⟩; obtain ⟨n2, rfl⟩ := hd2) | (go_at_call 33; refine (inside_any _ _ _ _).mono ?_; rintro e w' ⟨rfl, rfl⟩))
      go_ret2
      exact ⟨ret_ib (by rw [nxR, HX.out]; rfl) HX.out.symm, (by repeat (first | (with_reducible exact Below.refl _ _) | (with_reducible refine below_ov ?_ ?_) | (with_reducible refine Below.setCell ?_ ?_ _) | (with_reducible refine Below.alloc ?_ ?_ _) | (with_reducible refine Below.drew ?_) | (with_reducible refine below_drewN ?_ _) | (refine Below.trans ?_ (Below.mono ‹Below _ _ _› (by first | omega | (simp; done) | (simp; omega)))) | exact Below.refl _ _ | omega | (focus (simp; done)) | (focus (simp; omega))))⟩
    | true =>
      cases hc4_2 : inB q 1 720 with
      | false =>
        have HX : Hid (nxOk c a b n s q = false) := by show _ = _; simp [nxOk, nxP, *]
        go_enter Try.func26, Try.ntmps26
        go_wp2_with (first | (go_at_call 30; refine (arePeriods_any c a b n lo hi _ _ hv hhi hf).mono ?_; rintro e w1 ⟨rfl, hb1⟩; have hz1 := hb1.size; (try (simp at hz1)); obtain ⟨hcw1, hfw1⟩ := bcell hb1; (try (have hy1 : w.heap.size < w1.heap.size := by omega)); (try (have hyy1 : w.heap.size + 1 < w1.heap.size := by omega)); (try (have hyyy1 : w.heap.size + 1 + 1 < w1.heap.size := by omega))) | (go_at_call 31; refine (isName_any _ _ hs).mono ?_; rintro e w2 ⟨rfl, hd2⟩; obtain ⟨n2, rfl⟩ := hd2) | (go_at_call 33; refine (inside_any _ _ _ _).mono ?_; rintro e w' ⟨rfl, rfl⟩))
        go_ret2
        exact ⟨ret_ib (by rw [nxR, HX.out]; rfl) HX.out.symm, (by repeat (first | (with_reducible exact Below.refl _ _) | (with_reducible refine below_ov ?_ ?_) | (with_reducible refine Below.setCell ?_ ?_ _) | (with_reducible refine Below.alloc ?_ ?_ _) | (with_reducible refine Below.drew ?_) | (with_reducible refine below_drewN ?_ _) | (refine Below.trans ?_ (Below.mono ‹Below _ _ _› (by first | omega | (simp; done) | (simp; omega)))) | exact Below.refl _ _ | omega | (focus (simp; done)) | (focus (simp; omega))))⟩
      | true =>
        obtain ⟨hc4_2l, hc4_2r⟩ := inB_iff.1 hc4_2
        have HX : Hid (nxP c a b n s q = true) := by show _ = _; simp [nxP, *]
        have HP : Hid (pdB c a b n = true) := by show _ = _; assumption
        go_enter Try.func26, Try.ntmps26
        go_wp2_with (first | (go_at_call 30; refine (arePeriods_any c a b n lo hi _ _ hv hhi hf).mono ?_; rintro e w1 ⟨rfl, hb1⟩; have hz1 := hb1.size; (try (simp at hz1)); obtain ⟨hcw1, hfw1⟩ := bcell hb1; (try (have hy1 : w.heap.size < w1.heap.size := by omega)); (try (have hyy1 : w.heap.size + 1 < w1.heap.size := by omega)); (try (have hyyy1 : w.heap.size + 1 + 1 < w1.heap.size := by omega))) | (go_at_call 31; refine (isName_any _ _ hs).mono ?_; rintro e w2 ⟨rfl, hd2⟩; obtain ⟨n2, rfl⟩ := hd2) | (go_at_call 33; refine (inside_any _ _ _ _).mono ?_; rintro e w' ⟨rfl, rfl⟩))
        have hb0 : Below w.heap.size w (w1.drewN n2) := (by repeat (first | (with_reducible exact Below.refl _ _) | (with_reducible refine below_ov ?_ ?_) | (with_reducible refine Below.setCell ?_ ?_ _) | (with_reducible refine Below.alloc ?_ ?_ _) | (with_reducible refine Below.drew ?_) | (with_reducible refine below_drewN ?_ _) | (refine Below.trans ?_ (Below.mono ‹Below _ _ _› (by first | omega | (simp; done) | (simp; omega)))) | exact Below.refl _ _ | omega | (focus (simp; done)) | (focus (simp; omega))))
        go_loopw [8, 9, 28] (fun x y i wr => ∃ k : Nat, k ≤ n ∧ i = .int .i64 k ∧ x = .int .i64 (nrS c a b s k) ∧ y = .bool (nrB c a b s k) ∧ Below w.heap.size w wr) (fun _ _ i _ => n - (intOf i).toNat)
        case atStart => exact ⟨0, by omega, rfl, rfl, rfl, hb0⟩
        case round =>
          obtain ⟨k, hk, rfl, rfl, rfl, hb⟩ := hrel
          have hzr := hb.size
          by_cases hkn : k < n
          · obtain ⟨blk, off, rfl, h1, h2, h3⟩ := (hA.below hb (by omega)) (by omega)
            have c0 : wr.cell? ⟨blk, off + k * 3, none⟩ = some (.string (c k)) := h3 k 0 hkn (by omega)
            have c1 : wr.cell? ⟨blk, off + k * 3 + 1, none⟩ = some (.int .i64 (a k)) := h3 k 1 hkn (by omega)
            have c2 : wr.cell? ⟨blk, off + k * 3 + 2, none⟩ = some (.int .i64 (b k)) := h3 k 2 hkn (by omega)
            have H3 := hide h3
            have l0 : blk < wr.heap.size := by omega
            clear h3 hA
            have hbd : -1 ≤ befI c k ∧ befI c k < k := lstI_bd _ _
            cases e0 : ((c k).toList == s.toList) with
            | false =>
              have HG := hide (nr_no (c := c) (a := a) (b := b) (s := s) (k := k) fun h => by rw [str_beq, h.1] at e0; simp at e0)
              go_wp2_with fail
              refine (periodBefore_any c a b n k lo hi _ _ (hv.below (B := w.heap.size) (by repeat (first | (with_reducible exact Below.refl _ _) | (with_reducible refine below_ov ?_ ?_) | (with_reducible refine Below.setCell ?_ ?_ _) | (with_reducible refine Below.alloc ?_ ?_ _) | (with_reducible refine Below.drew ?_) | (with_reducible refine below_drewN ?_ _) | (refine Below.trans ?_ (Below.mono ‹Below _ _ _› (by first | omega | (simp; done) | (simp; omega)))) | exact Below.refl _ _ | omega | (focus (simp; done)) | (focus (simp; omega)))) hhi) (by first | omega | (simp; done) | (simp; omega)) hn hkn).mono ?_
              rintro e w4 ⟨rfl, hb4⟩
              have hz4 := hb4.size
              (try (simp at hz4))
              have l4 : wr.heap.size < w4.heap.size := by omega
              have pa0 := (hb4.cell (p := ⟨wr.heap.size, 0, none⟩) (by simp)).trans (World.cell?_alloc_new _ _ _ _)
              have pa1 := (hb4.cell (p := ⟨wr.heap.size, 1, none⟩) (by simp)).trans (World.cell?_alloc_new _ _ _ _)
              simp at pa0 pa1
              go_wp2_with fail
              go_quiet (fail)
              go_wp2_with fail
              go_roundw
              case rel => exact ⟨k + 1, by omega, by go_num, by rw [HG.out.1], by rw [HG.out.2], (by repeat (first | (with_reducible exact Below.refl _ _) | (with_reducible refine below_ov ?_ ?_) | (with_reducible refine Below.setCell ?_ ?_ _) | (with_reducible refine Below.alloc ?_ ?_ _) | (with_reducible refine Below.drew ?_) | (with_reducible refine below_drewN ?_ _) | (refine Below.trans ?_ (Below.mono ‹Below _ _ _› (by first | omega | (simp; done) | (simp; omega)))) | exact Below.refl _ _ | omega | (focus (simp; done)) | (focus (simp; omega))))⟩
              case measure => simp [intOf]; omega
            | true =>
              have E0 : Hid (c k = s) := by show _ = _; rw [str_beq] at e0; exact of_decide_eq_true e0
              by_cases hlt : befI c k < 0
              · have HG := hide (nr_yes (c := c) (a := a) (b := b) (s := s) (k := k) E0.out (.inl hlt))
                have d0 : decide (befI c k < 0) = true := decide_eq_true hlt
                go_wp2_with fail
                refine (periodBefore_any c a b n k lo hi _ _ (hv.below (B := w.heap.size) (by repeat (first | (with_reducible exact Below.refl _ _) | (with_reducible refine below_ov ?_ ?_) | (with_reducible refine Below.setCell ?_ ?_ _) | (with_reducible refine Below.alloc ?_ ?_ _) | (with_reducible refine Below.drew ?_) | (with_reducible refine below_drewN ?_ _) | (refine Below.trans ?_ (Below.mono ‹Below _ _ _› (by first | omega | (simp; done) | (simp; omega)))) | exact Below.refl _ _ | omega | (focus (simp; done)) | (focus (simp; omega)))) hhi) (by first | omega | (simp; done) | (simp; omega)) hn hkn).mono ?_
                rintro e w4 ⟨rfl, hb4⟩
                have hz4 := hb4.size
                (try (simp at hz4))
                have l4 : wr.heap.size < w4.heap.size := by omega
                have pa0 := (hb4.cell (p := ⟨wr.heap.size, 0, none⟩) (by simp)).trans (World.cell?_alloc_new _ _ _ _)
                have pa1 := (hb4.cell (p := ⟨wr.heap.size, 1, none⟩) (by simp)).trans (World.cell?_alloc_new _ _ _ _)
                simp at pa0 pa1
                go_wp2_with fail
                go_quiet (fail)
                go_wp2_with fail
                go_roundw
                case rel => exact ⟨k + 1, by omega, by go_num, by rw [HG.out.1], by rw [HG.out.2], (by repeat (first | (with_reducible exact Below.refl _ _) | (with_reducible refine below_ov ?_ ?_) | (with_reducible refine Below.setCell ?_ ?_ _) | (with_reducible refine Below.alloc ?_ ?_ _) | (with_reducible refine Below.drew ?_) | (with_reducible refine below_drewN ?_ _) | (refine Below.trans ?_ (Below.mono ‹Below _ _ _› (by first | omega | (simp; done) | (simp; omega)))) | exact Below.refl _ _ | omega | (focus (simp; done)) | (focus (simp; omega))))⟩
                case measure => simp [intOf]; omega
              · obtain ⟨j, hjj⟩ : ∃ j : Nat, befI c k = j := ⟨(befI c k).toNat, by omega⟩
                have hjk : j < k := (befI_facts hjj).1
                have JJ := hide hjj
                clear hjj hlt hbd
                have q0 : (0 : Int) ≤ (j : Int) := by omega
                have q1 : (j : Int) < (n : Int) := by omega
                have d0 : decide ((j : Int) < 0) = false := decide_eq_false (by omega)
                cases e5 : decide (b j < a k) with
                | true =>
                  have HG := hide (nr_yes (c := c) (a := a) (b := b) (s := s) (k := k) E0.out (.inr (by rw [JJ.out, Int.toNat_natCast]; exact of_decide_eq_true e5)))
                  go_wp2_with fail
                  refine (periodBefore_any c a b n k lo hi _ _ (hv.below (B := w.heap.size) (by repeat (first | (with_reducible exact Below.refl _ _) | (with_reducible refine below_ov ?_ ?_) | (with_reducible refine Below.setCell ?_ ?_ _) | (with_reducible refine Below.alloc ?_ ?_ _) | (with_reducible refine Below.drew ?_) | (with_reducible refine below_drewN ?_ _) | (refine Below.trans ?_ (Below.mono ‹Below _ _ _› (by first | omega | (simp; done) | (simp; omega)))) | exact Below.refl _ _ | omega | (focus (simp; done)) | (focus (simp; omega)))) hhi) (by first | omega | (simp; done) | (simp; omega)) hn hkn).mono ?_
                  rintro e w4 ⟨rfl, hb4⟩
                  have hz4 := hb4.size
                  (try (simp at hz4))
                  have l4 : wr.heap.size < w4.heap.size := by omega
                  have pa0 := (hb4.cell (p := ⟨wr.heap.size, 0, none⟩) (by simp)).trans (World.cell?_alloc_new _ _ _ _)
                  have pa1 := (hb4.cell (p := ⟨wr.heap.size, 1, none⟩) (by simp)).trans (World.cell?_alloc_new _ _ _ _)
                  simp at pa0 pa1
                  have pj : w4.cell? ⟨blk, off + j * 3 + 2, none⟩ = some (.int .i64 (b j)) := (hb4.cell (p := ⟨blk, off + j * 3 + 2, none⟩) (by simp; omega)).trans ((World.cell?_alloc_lt _ _ _ l0).trans (H3.out j 2 (by omega) (by omega)))
                  rw [JJ.out]
                  go_wp2_with fail
                  go_quiet (fail)
                  go_wp2_with fail
                  go_roundw
                  case rel => exact ⟨k + 1, by omega, by go_num, by rw [HG.out.1], by rw [HG.out.2], (by repeat (first | (with_reducible exact Below.refl _ _) | (with_reducible refine below_ov ?_ ?_) | (with_reducible refine Below.setCell ?_ ?_ _) | (with_reducible refine Below.alloc ?_ ?_ _) | (with_reducible refine Below.drew ?_) | (with_reducible refine below_drewN ?_ _) | (refine Below.trans ?_ (Below.mono ‹Below _ _ _› (by first | omega | (simp; done) | (simp; omega)))) | exact Below.refl _ _ | omega | (focus (simp; done)) | (focus (simp; omega))))⟩
                  case measure => simp [intOf]; omega
                | false =>
                  have HG := hide (nr_no (c := c) (a := a) (b := b) (s := s) (k := k) (fun h => by
                    rcases h.2 with h1 | h1
                    · rw [JJ.out] at h1; omega
                    · rw [JJ.out, Int.toNat_natCast] at h1; exact of_decide_eq_false e5 h1))
                  go_wp2_with fail
                  refine (periodBefore_any c a b n k lo hi _ _ (hv.below (B := w.heap.size) (by repeat (first | (with_reducible exact Below.refl _ _) | (with_reducible refine below_ov ?_ ?_) | (with_reducible refine Below.setCell ?_ ?_ _) | (with_reducible refine Below.alloc ?_ ?_ _) | (with_reducible refine Below.drew ?_) | (with_reducible refine below_drewN ?_ _) | (refine Below.trans ?_ (Below.mono ‹Below _ _ _› (by first | omega | (simp; done) | (simp; omega)))) | exact Below.refl _ _ | omega | (focus (simp; done)) | (focus (simp; omega)))) hhi) (by first | omega | (simp; done) | (simp; omega)) hn hkn).mono ?_
                  rintro e w4 ⟨rfl, hb4⟩
                  have hz4 := hb4.size
                  (try (simp at hz4))
                  have l4 : wr.heap.size < w4.heap.size := by omega
                  have pa0 := (hb4.cell (p := ⟨wr.heap.size, 0, none⟩) (by simp)).trans (World.cell?_alloc_new _ _ _ _)
                  have pa1 := (hb4.cell (p := ⟨wr.heap.size, 1, none⟩) (by simp)).trans (World.cell?_alloc_new _ _ _ _)
                  simp at pa0 pa1
                  have pj : w4.cell? ⟨blk, off + j * 3 + 2, none⟩ = some (.int .i64 (b j)) := (hb4.cell (p := ⟨blk, off + j * 3 + 2, none⟩) (by simp; omega)).trans ((World.cell?_alloc_lt _ _ _ l0).trans (H3.out j 2 (by omega) (by omega)))
                  rw [JJ.out]
                  go_wp2_with fail
                  go_quiet (fail)
                  go_wp2_with fail
                  go_roundw
                  case rel => exact ⟨k + 1, by omega, by go_num, by rw [HG.out.1], by rw [HG.out.2], (by repeat (first | (with_reducible exact Below.refl _ _) | (with_reducible refine below_ov ?_ ?_) | (with_reducible refine Below.setCell ?_ ?_ _) | (with_reducible refine Below.alloc ?_ ?_ _) | (with_reducible refine Below.drew ?_) | (with_reducible refine below_drewN ?_ _) | (refine Below.trans ?_ (Below.mono ‹Below _ _ _› (by first | omega | (simp; done) | (simp; omega)))) | exact Below.refl _ _ | omega | (focus (simp; done)) | (focus (simp; omega))))⟩
                  case measure => simp [intOf]; omega
          · obtain rfl : k = n := by omega
            have hnr := nr_eq (s := s) HP.out k (Nat.le_refl _)
            cases ez : nrB c a b s k with
            | false =>
              have HR : Hid (nxR c a b k s q = 0 ∧ nxOk c a b k s q = false) := by
                have h1 : nxOk c a b k s q = false := by rw [nxOk, ez]; simp
                exact ⟨by rw [nxR, h1]; rfl, h1⟩
              clear hnr
              go_wp2_with fail
              go_ret2
              exact ⟨ret_ib HR.out.1.symm HR.out.2.symm, hb⟩
            | true =>
              have HR : Hid (nxR c a b k s q = nrS c a b s k + q ∧ nxOk c a b k s q = true) := by
                have h1 : nxOk c a b k s q = true := by rw [nxOk, ez, HX.out]; rfl
                exact ⟨by rw [nxR, h1, if_pos rfl], h1⟩
              have hbd : 0 ≤ nrS c a b s k ∧ nrS c a b s k ≤ 9999 := by
                by_cases hl : lstI (crewI c s) k < 0
                · rw [(hnr.1 hl).2] at ez; cases ez
                · have hjk : (lstI (crewI c s) k).toNat < k := by have := (lstI_bd (crewI c s) k).2; omega
                  have hst := st_bd (i := 0) HP.out _ hjk
                  have hpj := (perB_iff.1 ((pd_facts HP.out).2 _ hjk).1).2
                  rw [(hnr.2 (by omega)).1]; omega
              clear hnr
              go_wp2_with fail
              go_ret2
              exact ⟨ret_ib HR.out.1.symm HR.out.2.symm, hb⟩

end Go.Proofs.Ythchfnkljmoenaa

/-
  Walks: the laws' own helpers for Int: copies, comparisons, sizes (printed by gen_data.py).-/
namespace Go.Proofs.Ythchfnkljmoenaa
set_option linter.unusedVariables false
set_option linter.unusedSimpArgs false
open Go.RowKit


end Go.Proofs.Ythchfnkljmoenaa
