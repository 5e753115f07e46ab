/-
  Walks: how long a crew has rested; where it works.
-/
import Derived.Test.YtejeohcddaphcaaWPer4
import Derived.Test.YtejeohcddaphcaaPPer3
namespace Go.Proofs.Ytejeohcddaphcaa
set_option linter.unusedVariables false
set_option linter.unusedSimpArgs false
open Go.RowKit

def anyAt (c : Nat → ByteArray) (a b : Nat → Int) (n : Nat) (s : ByteArray) (m : Int) : Bool := decide (0 ≤ fstI (atI c a b s m) n)
def restOk (c : Nat → ByteArray) (a b : Nat → Int) (n : Nat) (s : ByteArray) (m : Int) : Bool := askP c a b n s m && (anyAt c a b n s m || !decide (rsF c b s m n < 0))
def restN (c : Nat → ByteArray) (a b : Nat → Int) (n : Nat) (s : ByteArray) (m : Int) : Int := if (restOk c a b n s m && !anyAt c a b n s m) = true then m - rsF c b s m n else 0
theorem rest_ask {c : Nat → ByteArray} {a b : Nat → Int} {n : Nat} {s : ByteArray} {m : Int} (h : askP c a b n s m = false) : restN c a b n s m = 0 ∧ restOk c a b n s m = false := by simp [restN, restOk, h]
theorem rest_at {c : Nat → ByteArray} {a b : Nat → Int} {n : Nat} {s : ByteArray} {m : Int} (h : askP c a b n s m = true) (h' : anyAt c a b n s m = true) : restN c a b n s m = 0 ∧ restOk c a b n s m = true := by simp [restN, restOk, h, h']
theorem rest_no {c : Nat → ByteArray} {a b : Nat → Int} {n : Nat} {s : ByteArray} {m : Int} (h : askP c a b n s m = true) (h' : anyAt c a b n s m = false) (h'' : decide (rsF c b s m n < 0) = true) : restN c a b n s m = 0 ∧ restOk c a b n s m = false := by simp [restN, restOk, h, h', h'']
theorem rest_yes {c : Nat → ByteArray} {a b : Nat → Int} {n : Nat} {s : ByteArray} {m : Int} (h : askP c a b n s m = true) (h' : anyAt c a b n s m = false) (h'' : decide (rsF c b s m n < 0) = false) : restN c a b n s m = m - rsF c b s m n ∧ restOk c a b n s m = true := by simp [restN, restOk, h, h', h'']

set_option maxRecDepth 100000 in
set_option maxHeartbeats 1600000 in
theorem rfAt_any (c : Nat → ByteArray) (a b : Nat → Int) (n : Nat) (s : ByteArray) (m : Int) (lo hi : Nat) (v : Value) (w : World) (hv : Sl w lo hi 3 v n (siiC c a b)) (hhi : hi ≤ w.heap.size) (hn : n ≤ 1048576) (hp : pdB c a b n = true) :
    Calls Try.prog 53 #[v, .string s, .int .i64 m] w fun e w' => e = .returned (.int .i64 (fstI (atI c a b s m) n)) ∧ Below w.heap.size w w' := by
  obtain ⟨A, cap, rfl, hcap, hA⟩ := hv.open_
  have HP := hide hp
  clear hp
  go_enter Try.func53, Try.ntmps53
  go_wp2_with fail
  go_loopw [11] (fun i wr => ∃ k : Nat, k ≤ n ∧ i = .int .i64 k ∧ Hid (∀ j, j < k → atI c a b s m j = false) ∧ Below w.heap.size w wr) (fun i _ => n - (intOf i).toNat)
  case atStart => exact ⟨0, by omega, rfl, fun j hj => by omega, Below.refl _ _⟩
  case round =>
    obtain ⟨k, hk, rfl, hj, hb⟩ := hrel
    have hzr := hb.size
    by_cases hkn : k < n
    · obtain ⟨blk, off, rfl, h1, h2, h3⟩ := (hA.below hb (by omega)) (by omega)
      have c0 : wr.cell? ⟨blk, off + k * 3, none⟩ = some (.string (c k)) := h3 k 0 hkn (by omega)
      have c1 : wr.cell? ⟨blk, off + k * 3 + 1, none⟩ = some (.int .i64 (a k)) := h3 k 1 hkn (by omega)
      have c2 : wr.cell? ⟨blk, off + k * 3 + 2, none⟩ = some (.int .i64 (b k)) := h3 k 2 hkn (by omega)
      clear h3 hA
      have hpk := (perB_iff.1 ((pd_facts HP.out).2 k hkn).1).2
      have l0 : blk < wr.heap.size := by omega
      cases e0 : ((c k).toList == s.toList) with
      | false =>
        have HG : Hid (atI c a b s m k = false) := by show _ = _; rw [str_beq] at e0; simp [atI, e0]
        go_wp2_with (go_at_call 57; refine (l1In_any _ _ _ _).mono ?_; rintro e w' ⟨rfl, rfl⟩)
        go_roundw
        case rel => exact ⟨k + 1, by omega, by go_num, upto_snocF hj.out HG.out, (by repeat (first | (with_reducible exact Below.refl _ _) | (with_reducible refine below_ov ?_ ?_) | (with_reducible refine Below.setCell ?_ ?_ _) | (with_reducible refine Below.alloc ?_ ?_ _) | (with_reducible refine Below.drew ?_) | (with_reducible refine below_drewN ?_ _) | (refine Below.trans ?_ (Below.mono ‹Below _ _ _› (by first | omega | (simp; done) | (simp; omega)))) | exact Below.refl _ _ | omega | (focus (simp; done)) | (focus (simp; omega))))⟩
        case measure => simp [intOf]; omega
      | true =>
        cases e1 : inB m (a k) (b k - 1) with
        | false =>
          have HG : Hid (atI c a b s m k = false) := by show _ = _; simp [atI, e1]
          go_wp2_with (go_at_call 57; refine (l1In_any _ _ _ _).mono ?_; rintro e w' ⟨rfl, rfl⟩)
          go_roundw
          case rel => exact ⟨k + 1, by omega, by go_num, upto_snocF hj.out HG.out, (by repeat (first | (with_reducible exact Below.refl _ _) | (with_reducible refine below_ov ?_ ?_) | (with_reducible refine Below.setCell ?_ ?_ _) | (with_reducible refine Below.alloc ?_ ?_ _) | (with_reducible refine Below.drew ?_) | (with_reducible refine below_drewN ?_ _) | (refine Below.trans ?_ (Below.mono ‹Below _ _ _› (by first | omega | (simp; done) | (simp; omega)))) | exact Below.refl _ _ | omega | (focus (simp; done)) | (focus (simp; omega))))⟩
          case measure => simp [intOf]; omega
        | true =>
          have HG : Hid (fstI (atI c a b s m) n = k) := fstI_at hkn hj.out (by rw [str_beq] at e0; simp [atI, of_decide_eq_true e0, e1])
          go_wp2_with (go_at_call 57; refine (l1In_any _ _ _ _).mono ?_; rintro e w' ⟨rfl, rfl⟩)
          go_ret
          exact ⟨ret_int HG.out.symm, (by repeat (first | (with_reducible exact Below.refl _ _) | (with_reducible refine below_ov ?_ ?_) | (with_reducible refine Below.setCell ?_ ?_ _) | (with_reducible refine Below.alloc ?_ ?_ _) | (with_reducible refine Below.drew ?_) | (with_reducible refine below_drewN ?_ _) | (refine Below.trans ?_ (Below.mono ‹Below _ _ _› (by first | omega | (simp; done) | (simp; omega)))) | exact Below.refl _ _ | omega | (focus (simp; done)) | (focus (simp; omega))))⟩
    · obtain rfl : k = n := by omega
      go_wp2_with fail
      go_ret
      exact ⟨ret_int (fstI_none hj.out).symm, hb⟩
set_option maxRecDepth 100000 in
set_option maxHeartbeats 1600000 in
theorem RestOf_spec (c : Nat → ByteArray) (a b : Nat → Int) (n : Nat) (s : ByteArray) (m : Int) (lo hi : Nat) (v : Value) (w : World) (hv : Sl w lo hi 3 v n (siiC c a b)) (hhi : hi ≤ w.heap.size) (hf : pfits c n) (hs : s.size ≤ maxLen) :
    Calls Try.prog 24 #[v, .string s, .int .i64 m] w fun e w' => e = .returned (.tuple #[.int .i64 (restN c a b n s m), .bool (restOk c a b n s m)]) ∧ Below w.heap.size w w' := by
  obtain ⟨A, cap, rfl, hcap, hA⟩ := hv.open_
  have hn := hf.1
  cases hx : askP c a b n s m with
  | false =>
    have HR := hide (rest_ask hx)
    go_enter Try.func24, Try.ntmps24
    go_wp2_with (go_at_call 44; refine (rfAsked_any c a b n s m lo hi _ _ hv hhi hf hs).mono ?_; rintro e w1 ⟨rfl, hb1⟩; have hz1 := hb1.size; (try (simp at hz1)); obtain ⟨hcw1, hfw1⟩ := bcell hb1; (try (have hy1 : w.heap.size < w1.heap.size := by omega)); (try (have hyy1 : w.heap.size + 1 < w1.heap.size := by omega)); (try (have hyyy1 : w.heap.size + 1 + 1 < w1.heap.size := by omega)))
    go_ret2
    exact ⟨ret_ib HR.out.1.symm HR.out.2.symm, (by repeat (first | (with_reducible exact Below.refl _ _) | (with_reducible refine below_ov ?_ ?_) | (with_reducible refine Below.setCell ?_ ?_ _) | (with_reducible refine Below.alloc ?_ ?_ _) | (with_reducible refine Below.drew ?_) | (with_reducible refine below_drewN ?_ _) | (refine Below.trans ?_ (Below.mono ‹Below _ _ _› (by first | omega | (simp; done) | (simp; omega)))) | exact Below.refl _ _ | omega | (focus (simp; done)) | (focus (simp; omega))))⟩
  | true =>
    have HX := hide hx
    have HP := hide (ask_facts hx).1
    have hm := (ask_facts hx).2
    cases hy : anyAt c a b n s m with
    | true =>
      have HR := hide (rest_at hx hy)
      have hy' : decide (0 ≤ fstI (atI c a b s m) n) = true := hy
      go_enter Try.func24, Try.ntmps24
      go_wp2_with (first | (go_at_call 44; refine (rfAsked_any c a b n s m lo hi _ _ hv hhi hf hs).mono ?_; rintro e w1 ⟨rfl, hb1⟩; have hz1 := hb1.size; (try (simp at hz1)); obtain ⟨hcw1, hfw1⟩ := bcell hb1; (try (have hy1 : w.heap.size < w1.heap.size := by omega)); (try (have hyy1 : w.heap.size + 1 < w1.heap.size := by omega)); (try (have hyyy1 : w.heap.size + 1 + 1 < w1.heap.size := by omega))) | (go_at_call 53; refine (rfAt_any c a b n s m lo hi _ _ (hv.below (B := w.heap.size) (by repeat (first | (with_reducible exact Below.refl _ _) | (with_reducible refine below_ov ?_ ?_) | (with_reducible refine Below.setCell ?_ ?_ _) | (with_reducible refine Below.alloc ?_ ?_ _) | (with_reducible refine Below.drew ?_) | (with_reducible refine below_drewN ?_ _) | (refine Below.trans ?_ (Below.mono ‹Below _ _ _› (by first | omega | (simp; done) | (simp; omega)))) | exact Below.refl _ _ | omega | (focus (simp; done)) | (focus (simp; omega)))) hhi) (by first | omega | (simp; done) | (simp; omega)) hn HP.out).mono ?_; rintro e w2 ⟨rfl, hb2⟩; have hz2 := hb2.size; (try (simp at hz2)); obtain ⟨hcw2, hfw2⟩ := bcell hb2; (try (have hy2 : w.heap.size < w2.heap.size := by omega)); (try (have hyy2 : w.heap.size + 1 < w2.heap.size := by omega)); (try (have hyyy2 : w.heap.size + 1 + 1 < w2.heap.size := by omega))))
      go_ret2
      exact ⟨ret_ib HR.out.1.symm HR.out.2.symm, (by repeat (first | (with_reducible exact Below.refl _ _) | (with_reducible refine below_ov ?_ ?_) | (with_reducible refine Below.setCell ?_ ?_ _) | (with_reducible refine Below.alloc ?_ ?_ _) | (with_reducible refine Below.drew ?_) | (with_reducible refine below_drewN ?_ _) | (refine Below.trans ?_ (Below.mono ‹Below _ _ _› (by first | omega | (simp; done) | (simp; omega)))) | exact Below.refl _ _ | omega | (focus (simp; done)) | (focus (simp; omega))))⟩
    | false =>
      have HY := hide hy
      have hy' : decide (0 ≤ fstI (atI c a b s m) n) = false := hy
      go_enter Try.func24, Try.ntmps24
      go_wp2_with (first | (go_at_call 44; refine (rfAsked_any c a b n s m lo hi _ _ hv hhi hf hs).mono ?_; rintro e w1 ⟨rfl, hb1⟩; have hz1 := hb1.size; (try (simp at hz1)); obtain ⟨hcw1, hfw1⟩ := bcell hb1; (try (have hy1 : w.heap.size < w1.heap.size := by omega)); (try (have hyy1 : w.heap.size + 1 < w1.heap.size := by omega)); (try (have hyyy1 : w.heap.size + 1 + 1 < w1.heap.size := by omega))) | (go_at_call 53; refine (rfAt_any c a b n s m lo hi _ _ (hv.below (B := w.heap.size) (by repeat (first | (with_reducible exact Below.refl _ _) | (with_reducible refine below_ov ?_ ?_) | (with_reducible refine Below.setCell ?_ ?_ _) | (with_reducible refine Below.alloc ?_ ?_ _) | (with_reducible refine Below.drew ?_) | (with_reducible refine below_drewN ?_ _) | (refine Below.trans ?_ (Below.mono ‹Below _ _ _› (by first | omega | (simp; done) | (simp; omega)))) | exact Below.refl _ _ | omega | (focus (simp; done)) | (focus (simp; omega)))) hhi) (by first | omega | (simp; done) | (simp; omega)) hn HP.out).mono ?_; rintro e w2 ⟨rfl, hb2⟩; have hz2 := hb2.size; (try (simp at hz2)); obtain ⟨hcw2, hfw2⟩ := bcell hb2; (try (have hy2 : w.heap.size < w2.heap.size := by omega)); (try (have hyy2 : w.heap.size + 1 < w2.heap.size := by omega)); (try (have hyyy2 : w.heap.size + 1 + 1 < w2.heap.size := by omega))))
      have hb0 : Below w.heap.size w w2 := (by repeat (first | (with_reducible exact Below.refl _ _) | (with_reducible refine below_ov ?_ ?_) | (with_reducible refine Below.setCell ?_ ?_ _) | (with_reducible refine Below.alloc ?_ ?_ _) | (with_reducible refine Below.drew ?_) | (with_reducible refine below_drewN ?_ _) | (refine Below.trans ?_ (Below.mono ‹Below _ _ _› (by first | omega | (simp; done) | (simp; omega)))) | exact Below.refl _ _ | omega | (focus (simp; done)) | (focus (simp; omega))))
      go_loopw [8, 23] (fun x i wr => ∃ k : Nat, k ≤ n ∧ i = .int .i64 k ∧ x = .int .i64 (rsF c b s m k) ∧ Below w.heap.size w wr) (fun _ i _ => n - (intOf i).toNat)
      case atStart => exact ⟨0, by omega, rfl, rfl, hb0⟩
      case round =>
        obtain ⟨k, hk, rfl, rfl, hb⟩ := hrel
        have hzr := hb.size
        have hw := rs_bd (c := c) (b := b) (s := s) (m := m) k
        by_cases hkn : k < n
        · obtain ⟨blk, off, rfl, h1, h2, h3⟩ := (hA.below hb (by omega)) (by omega)
          have c0 : wr.cell? ⟨blk, off + k * 3, none⟩ = some (.string (c k)) := h3 k 0 hkn (by omega)
          have c1 : wr.cell? ⟨blk, off + k * 3 + 1, none⟩ = some (.int .i64 (a k)) := h3 k 1 hkn (by omega)
          have c2 : wr.cell? ⟨blk, off + k * 3 + 2, none⟩ = some (.int .i64 (b k)) := h3 k 2 hkn (by omega)
          clear h3 hA
          have hpk := (perB_iff.1 ((pd_facts HP.out).2 k hkn).1).2
          cases e0 : ((c k).toList == s.toList) with
          | false =>
            have HG : Hid (rsF c b s m (k + 1) = rsF c b s m k) := rs_no fun h => by rw [str_beq, h.1] at e0; simp at e0
            go_wp2_with fail
            go_roundw
            case rel => exact ⟨k + 1, by omega, by go_num, by rw [HG.out], (by repeat (first | (with_reducible exact Below.refl _ _) | (with_reducible refine below_ov ?_ ?_) | (with_reducible refine Below.setCell ?_ ?_ _) | (with_reducible refine Below.alloc ?_ ?_ _) | (with_reducible refine Below.drew ?_) | (with_reducible refine below_drewN ?_ _) | (refine Below.trans ?_ (Below.mono ‹Below _ _ _› (by first | omega | (simp; done) | (simp; omega)))) | exact Below.refl _ _ | omega | (focus (simp; done)) | (focus (simp; omega))))⟩
            case measure => simp [intOf]; omega
          | true =>
            cases e1 : decide (b k ≤ m) with
            | false =>
              have HG : Hid (rsF c b s m (k + 1) = rsF c b s m k) := rs_no fun h => of_decide_eq_false e1 h.2
              go_wp2_with fail
              go_roundw
              case rel => exact ⟨k + 1, by omega, by go_num, by rw [HG.out], (by repeat (first | (with_reducible exact Below.refl _ _) | (with_reducible refine below_ov ?_ ?_) | (with_reducible refine Below.setCell ?_ ?_ _) | (with_reducible refine Below.alloc ?_ ?_ _) | (with_reducible refine Below.drew ?_) | (with_reducible refine below_drewN ?_ _) | (refine Below.trans ?_ (Below.mono ‹Below _ _ _› (by first | omega | (simp; done) | (simp; omega)))) | exact Below.refl _ _ | omega | (focus (simp; done)) | (focus (simp; omega))))⟩
              case measure => simp [intOf]; omega
            | true =>
              have HG : Hid (rsF c b s m (k + 1) = max (rsF c b s m k) (b k)) := rs_yes (by rw [str_beq] at e0; exact of_decide_eq_true e0) (of_decide_eq_true e1)
              go_wp2_with (go_at_call 54; refine (l1Most_any _ _ _).mono ?_; rintro e w' ⟨rfl, rfl⟩)
              go_roundw
              case rel => exact ⟨k + 1, by omega, by go_num, by rw [HG.out], (by repeat (first | (with_reducible exact Below.refl _ _) | (with_reducible refine below_ov ?_ ?_) | (with_reducible refine Below.setCell ?_ ?_ _) | (with_reducible refine Below.alloc ?_ ?_ _) | (with_reducible refine Below.drew ?_) | (with_reducible refine below_drewN ?_ _) | (refine Below.trans ?_ (Below.mono ‹Below _ _ _› (by first | omega | (simp; done) | (simp; omega)))) | exact Below.refl _ _ | omega | (focus (simp; done)) | (focus (simp; omega))))⟩
              case measure => simp [intOf]; omega
        · obtain rfl : k = n := by omega
          cases ez : decide (rsF c b s m k < 0) with
          | true =>
            have HR := hide (rest_no HX.out HY.out ez)
            go_wp2_with fail
            go_ret2
            exact ⟨ret_ib HR.out.1.symm HR.out.2.symm, hb⟩
          | false =>
            have HR := hide (rest_yes HX.out HY.out ez)
            go_wp2_with fail
            go_ret2
            exact ⟨ret_ib HR.out.1.symm HR.out.2.symm, hb⟩
set_option maxRecDepth 100000 in
set_option maxHeartbeats 1600000 in
theorem RestOf_impl (c : Nat → ByteArray) (a b : Nat → Int) (n : Nat) (s : ByteArray) (m : Int) (lo hi : Nat) (v : Value) (w : World) (hv : Sl w lo hi 3 v n (siiC c a b)) (hhi : hi ≤ w.heap.size) (hf : pfits c n) (hs : s.size ≤ maxLen) :
    Calls Try.prog 25 #[v, .string s, .int .i64 m] w fun e w' => e = .returned (.tuple #[.int .i64 (restN c a b n s m), .bool (restOk c a b n s m)]) ∧ Below w.heap.size w w' := by
  obtain ⟨A, cap, rfl, hcap, hA⟩ := hv.open_
  have hn := hf.1
  cases hc1_0 : pdB c a b n with
  | false =>
    have HR := hide (rest_ask (c := c) (a := a) (b := b) (n := n) (s := s) (m := m) (by simp [askP, *]))
    go_enter Try.func25, Try.ntmps25
    go_wp2_with (first | (go_at_call 42; refine (arePeriods_any c a b n lo hi _ _ hv hhi hf).mono ?_; rintro e w1 ⟨rfl, hb1⟩; have hz1 := hb1.size; (try (simp at hz1)); obtain ⟨hcw1, hfw1⟩ := bcell hb1; (try (have hy1 : w.heap.size < w1.heap.size := by omega)); (try (have hyy1 : w.heap.size + 1 < w1.heap.size := by omega)); (try (have hyyy1 : w.heap.size + 1 + 1 < w1.heap.size := by omega))) | (go_at_call 46; refine (isName_any _ _ hs).mono ?_; rintro e w2 ⟨rfl, hd2⟩; obtain ⟨n2, rfl⟩ := hd2) | (go_at_call 36; refine (isMinute_any _ _).mono ?_; rintro e w' ⟨rfl, rfl⟩))
    go_ret2
    exact ⟨ret_ib HR.out.1.symm HR.out.2.symm, (by repeat (first | (with_reducible exact Below.refl _ _) | (with_reducible refine below_ov ?_ ?_) | (with_reducible refine Below.setCell ?_ ?_ _) | (with_reducible refine Below.alloc ?_ ?_ _) | (with_reducible refine Below.drew ?_) | (with_reducible refine below_drewN ?_ _) | (refine Below.trans ?_ (Below.mono ‹Below _ _ _› (by first | omega | (simp; done) | (simp; omega)))) | exact Below.refl _ _ | omega | (focus (simp; done)) | (focus (simp; omega))))⟩
  | true =>
    cases hc1_1 : nameB s with
    | false =>
      have HR := hide (rest_ask (c := c) (a := a) (b := b) (n := n) (s := s) (m := m) (by simp [askP, *]))
      go_enter Try.func25, Try.ntmps25
      go_wp2_with (first | (go_at_call 42; refine (arePeriods_any c a b n lo hi _ _ hv hhi hf).mono ?_; rintro e w1 ⟨rfl, hb1⟩; have hz1 := hb1.size; (try (simp at hz1)); obtain ⟨hcw1, hfw1⟩ := bcell hb1; (try (have hy1 : w.heap.size < w1.heap.size := by omega)); (try (have hyy1 : w.heap.size + 1 < w1.heap.size := by omega)); (try (have hyyy1 : w.heap.size + 1 + 1 < w1.heap.size := by omega))) | (go_at_call 46; refine (isName_any _ _ hs).mono ?_; rintro e w2 ⟨rfl, hd2⟩; obtain ⟨n2, rfl⟩ := hd2) | (go_at_call 36; refine (isMinute_any _ _).mono ?_; rintro e w' ⟨rfl, rfl⟩))
      go_ret2
      exact ⟨ret_ib HR.out.1.symm HR.out.2.symm, (by repeat (first | (with_reducible exact Below.refl _ _) | (with_reducible refine below_ov ?_ ?_) | (with_reducible refine Below.setCell ?_ ?_ _) | (with_reducible refine Below.alloc ?_ ?_ _) | (with_reducible refine Below.drew ?_) | (with_reducible refine below_drewN ?_ _) | (refine Below.trans ?_ (Below.mono ‹Below _ _ _› (by first | omega | (simp; done) | (simp; omega)))) | exact Below.refl _ _ | omega | (focus (simp; done)) | (focus (simp; omega))))⟩
    | true =>
      cases hc1_2 : inB m 0 9999 with
      | false =>
        have HR := hide (rest_ask (c := c) (a := a) (b := b) (n := n) (s := s) (m := m) (by simp [askP, *]))
        go_enter Try.func25, Try.ntmps25
        go_wp2_with (first | (go_at_call 42; refine (arePeriods_any c a b n lo hi _ _ hv hhi hf).mono ?_; rintro e w1 ⟨rfl, hb1⟩; have hz1 := hb1.size; (try (simp at hz1)); obtain ⟨hcw1, hfw1⟩ := bcell hb1; (try (have hy1 : w.heap.size < w1.heap.size := by omega)); (try (have hyy1 : w.heap.size + 1 < w1.heap.size := by omega)); (try (have hyyy1 : w.heap.size + 1 + 1 < w1.heap.size := by omega))) | (go_at_call 46; refine (isName_any _ _ hs).mono ?_; rintro e w2 ⟨rfl, hd2⟩; obtain ⟨n2, rfl⟩ := hd2) | (go_at_call 36; refine (isMinute_any _ _).mono ?_; rintro e w' ⟨rfl, rfl⟩))
        go_ret2
        exact ⟨ret_ib HR.out.1.symm HR.out.2.symm, (by repeat (first | (with_reducible exact Below.refl _ _) | (with_reducible refine below_ov ?_ ?_) | (with_reducible refine Below.setCell ?_ ?_ _) | (with_reducible refine Below.alloc ?_ ?_ _) | (with_reducible refine Below.drew ?_) | (with_reducible refine below_drewN ?_ _) | (refine Below.trans ?_ (Below.mono ‹Below _ _ _› (by first | omega | (simp; done) | (simp; omega)))) | exact Below.refl _ _ | omega | (focus (simp; done)) | (focus (simp; omega))))⟩
      | true =>
        obtain ⟨hc1_2l, hc1_2r⟩ := inB_iff.1 hc1_2
        have HX : Hid (askP c a b n s m = true) := by show _ = _; simp [askP, *]
        have HP := hide (ask_facts HX.out).1
        go_enter Try.func25, Try.ntmps25
        go_wp2_with (first | (go_at_call 42; refine (arePeriods_any c a b n lo hi _ _ hv hhi hf).mono ?_; rintro e w1 ⟨rfl, hb1⟩; have hz1 := hb1.size; (try (simp at hz1)); obtain ⟨hcw1, hfw1⟩ := bcell hb1; (try (have hy1 : w.heap.size < w1.heap.size := by omega)); (try (have hyy1 : w.heap.size + 1 < w1.heap.size := by omega)); (try (have hyyy1 : w.heap.size + 1 + 1 < w1.heap.size := by omega))) | (go_at_call 46; refine (isName_any _ _ hs).mono ?_; rintro e w2 ⟨rfl, hd2⟩; obtain ⟨n2, rfl⟩ := hd2) | (go_at_call 36; refine (isMinute_any _ _).mono ?_; rintro e w' ⟨rfl, rfl⟩))
        have hb0 : Below w.heap.size w (w1.drewN n2) := (by repeat (first | (with_reducible exact Below.refl _ _) | (with_reducible refine below_ov ?_ ?_) | (with_reducible refine Below.setCell ?_ ?_ _) | (with_reducible refine Below.alloc ?_ ?_ _) | (with_reducible refine Below.drew ?_) | (with_reducible refine below_drewN ?_ _) | (refine Below.trans ?_ (Below.mono ‹Below _ _ _› (by first | omega | (simp; done) | (simp; omega)))) | exact Below.refl _ _ | omega | (focus (simp; done)) | (focus (simp; omega))))
        go_loopw [8, 26] (fun x i wr => ∃ k : Nat, k ≤ n ∧ i = .int .i64 k ∧ x = .int .i64 (rsF c b s m k) ∧ Hid (∀ j, j < k → atI c a b s m j = false) ∧ Below w.heap.size w wr) (fun _ i _ => n - (intOf i).toNat)
        case atStart => exact ⟨0, by omega, rfl, rfl, fun j hj => by omega, hb0⟩
        case round =>
          obtain ⟨k, hk, rfl, rfl, hj, hb⟩ := hrel
          have hzr := hb.size
          have hw := rs_bd (c := c) (b := b) (s := s) (m := m) k
          by_cases hkn : k < n
          · obtain ⟨blk, off, rfl, h1, h2, h3⟩ := (hA.below hb (by omega)) (by omega)
            have c0 : wr.cell? ⟨blk, off + k * 3, none⟩ = some (.string (c k)) := h3 k 0 hkn (by omega)
            have c1 : wr.cell? ⟨blk, off + k * 3 + 1, none⟩ = some (.int .i64 (a k)) := h3 k 1 hkn (by omega)
            have c2 : wr.cell? ⟨blk, off + k * 3 + 2, none⟩ = some (.int .i64 (b k)) := h3 k 2 hkn (by omega)
            clear h3 hA
            have hpk := (perB_iff.1 ((pd_facts HP.out).2 k hkn).1).2
            cases e0 : ((c k).toList == s.toList) with
            | false =>
              have HG : Hid (rsF c b s m (k + 1) = rsF c b s m k) := rs_no fun h => by rw [str_beq, h.1] at e0; simp at e0
              have HT : Hid (atI c a b s m k = false) := by show _ = _; rw [str_beq] at e0; simp [atI, e0]
              have e0' : ((c k).toList != s.toList) = true := by simp [bne, e0]
              go_wp2_with fail
              go_roundw
              case rel => exact ⟨k + 1, by omega, by go_num, by rw [HG.out], upto_snocF hj.out HT.out, (by repeat (first | (with_reducible exact Below.refl _ _) | (with_reducible refine below_ov ?_ ?_) | (with_reducible refine Below.setCell ?_ ?_ _) | (with_reducible refine Below.alloc ?_ ?_ _) | (with_reducible refine Below.drew ?_) | (with_reducible refine below_drewN ?_ _) | (refine Below.trans ?_ (Below.mono ‹Below _ _ _› (by first | omega | (simp; done) | (simp; omega)))) | exact Below.refl _ _ | omega | (focus (simp; done)) | (focus (simp; omega))))⟩
              case measure => simp [intOf]; omega
            | true =>
              have e0' : ((c k).toList != s.toList) = false := by simp [bne, e0]
              cases e5 : inB m (a k) (b k - 1) with
              | true =>
                have HR : Hid (restN c a b n s m = 0 ∧ restOk c a b n s m = true) := by
                  refine rest_at HX.out ?_
                  rw [str_beq] at e0
                  rw [anyAt, fstI_at hkn hj.out (by simp [atI, of_decide_eq_true e0, e5])]
                  simp
                go_wp2_with (go_at_call 37; refine (inside_any _ _ _ _).mono ?_; rintro e w' ⟨rfl, rfl⟩)
                go_ret2
                exact ⟨ret_ib HR.out.1.symm HR.out.2.symm, (by repeat (first | (with_reducible exact Below.refl _ _) | (with_reducible refine below_ov ?_ ?_) | (with_reducible refine Below.setCell ?_ ?_ _) | (with_reducible refine Below.alloc ?_ ?_ _) | (with_reducible refine Below.drew ?_) | (with_reducible refine below_drewN ?_ _) | (refine Below.trans ?_ (Below.mono ‹Below _ _ _› (by first | omega | (simp; done) | (simp; omega)))) | exact Below.refl _ _ | omega | (focus (simp; done)) | (focus (simp; omega))))⟩
              | false =>
                have HT : Hid (atI c a b s m k = false) := by show _ = _; simp [atI, e5]
                cases e1 : decide (b k ≤ m) with
                | false =>
                  have HG : Hid (rsF c b s m (k + 1) = rsF c b s m k) := rs_no fun h => of_decide_eq_false e1 h.2
                  go_wp2_with (go_at_call 37; refine (inside_any _ _ _ _).mono ?_; rintro e w' ⟨rfl, rfl⟩)
                  go_roundw
                  case rel => exact ⟨k + 1, by omega, by go_num, by rw [HG.out], upto_snocF hj.out HT.out, (by repeat (first | (with_reducible exact Below.refl _ _) | (with_reducible refine below_ov ?_ ?_) | (with_reducible refine Below.setCell ?_ ?_ _) | (with_reducible refine Below.alloc ?_ ?_ _) | (with_reducible refine Below.drew ?_) | (with_reducible refine below_drewN ?_ _) | (refine Below.trans ?_ (Below.mono ‹Below _ _ _› (by first | omega | (simp; done) | (simp; omega)))) | exact Below.refl _ _ | omega | (focus (simp; done)) | (focus (simp; omega))))⟩
                  case measure => simp [intOf]; omega
                | true =>
                  have HG : Hid (rsF c b s m (k + 1) = max (rsF c b s m k) (b k)) := rs_yes (by rw [str_beq] at e0; exact of_decide_eq_true e0) (of_decide_eq_true e1)
                  go_wp2_with (go_at_call 37; refine (inside_any _ _ _ _).mono ?_; rintro e w' ⟨rfl, rfl⟩)
                  all_goals
                    go_roundw
                    case rel => exact ⟨k + 1, by omega, by go_num, by rw [HG.out]; congr 1; omega, upto_snocF hj.out HT.out, (by repeat (first | (with_reducible exact Below.refl _ _) | (with_reducible refine below_ov ?_ ?_) | (with_reducible refine Below.setCell ?_ ?_ _) | (with_reducible refine Below.alloc ?_ ?_ _) | (with_reducible refine Below.drew ?_) | (with_reducible refine below_drewN ?_ _) | (refine Below.trans ?_ (Below.mono ‹Below _ _ _› (by first | omega | (simp; done) | (simp; omega)))) | exact Below.refl _ _ | omega | (focus (simp; done)) | (focus (simp; omega))))⟩
                    case measure => simp [intOf]; omega
          · obtain rfl : k = n := by omega
            have HY : Hid (anyAt c a b k s m = false) := by show _ = _; rw [anyAt, fstI_none hj.out]; rfl
            cases ez : decide (rsF c b s m k < 0) with
            | true =>
              have HR := hide (rest_no HX.out HY.out ez)
              go_wp2_with fail
              go_ret2
              exact ⟨ret_ib HR.out.1.symm HR.out.2.symm, hb⟩
            | false =>
              have HR := hide (rest_yes HX.out HY.out ez)
              go_wp2_with fail
              go_ret2
              exact ⟨ret_ib HR.out.1.symm HR.out.2.symm, hb⟩

end Go.Proofs.Ytejeohcddaphcaa
