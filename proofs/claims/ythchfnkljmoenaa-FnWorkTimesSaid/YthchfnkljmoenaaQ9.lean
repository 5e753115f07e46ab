/-
  Texts of this proof, one behind the other (part 9).
-/
import Derived.Test.YthchfnkljmoenaaQ8
/-
  Walks: how long a crew has rested; where it works.-/
namespace Go.Proofs.Ythchfnkljmoenaa
set_option linter.unusedVariables false
set_option linter.unusedSimpArgs false
open Go.RowKit

def anyAt (c : Nat → ByteArray) (a b : Nat → Int) (n : Nat) (s : ByteArray) (m : Int) : Bool := decide (0 ≤ fstI (atI c a b s m) n)
def restOk (c : Nat → ByteArray) (a b : Nat → Int) (n : Nat) (s : ByteArray) (m : Int) : Bool := askP c a b n s m && (anyAt c a b n s m || !decide (rsF c b s m n < 0))
def restN (c : Nat → ByteArray) (a b : Nat → Int) (n : Nat) (s : ByteArray) (m : Int) : Int := if (restOk c a b n s m && !anyAt c a b n s m) = true then m - rsF c b s m n else 0
theorem rest_ask {c : Nat → ByteArray} {a b : Nat → Int} {n : Nat} {s : ByteArray} {m : Int} (h : askP c a b n s m = false) : restN c a b n s m = 0 ∧ restOk c a b n s m = false := by simp [restN, restOk, h]
theorem rest_at {c : Nat → ByteArray} {a b : Nat → Int} {n : Nat} {s : ByteArray} {m : Int} (h : askP c a b n s m = true) (h' : anyAt c a b n s m = true) : restN c a b n s m = 0 ∧ restOk c a b n s m = true := by simp [restN, restOk, h, h']
theorem rest_no {c : Nat → ByteArray} {a b : Nat → Int} {n : Nat} {s : ByteArray} {m : Int} (h : askP c a b n s m = true) (h' : anyAt c a b n s m = false) (h'' : decide (rsF c b s m n < 0) = true) : restN c a b n s m = 0 ∧ restOk c a b n s m = false := by simp [restN, restOk, h, h', h'']
theorem rest_yes {c : Nat → ByteArray} {a b : Nat → Int} {n : Nat} {s : ByteArray} {m : Int} (h : askP c a b n s m = true) (h' : anyAt c a b n s m = false) (h'' : decide (rsF c b s m n < 0) = false) : restN c a b n s m = m - rsF c b s m n ∧ restOk c a b n s m = true := by simp [restN, restOk, h, h', h'']

set_option maxRecDepth 100000 in
set_option maxHeartbeats 1600000 in
theorem rfAt_any (c : Nat → ByteArray) (a b : Nat → Int) (n : Nat) (s : ByteArray) (m : Int) (lo hi : Nat) (v : Value) (w : World) (hv : Sl w lo hi 3 v n (siiC c a b)) (hhi : hi ≤ w.heap.size) (hn : n ≤ 1048576) (hp : pdB c a b n = true) :
    Calls Try.prog 35 #[v, .string s, .int .i64 m] w fun e w' => e = .returned (.int .i64 (fstI (atI c a b s m) n)) ∧ Below w.heap.size w w' := by
  obtain ⟨A, cap, rfl, hcap, hA⟩ := hv.open_
  have HP := hide hp
  clear hp
  go_enter Try.func35, Try.ntmps35
  go_wp2_with fail
  go_loopw [11] (fun i wr => ∃ k : Nat, k ≤ n ∧ i = .int .i64 k ∧ Hid (∀ j, j < k → atI c a b s m j = false) ∧ Below w.heap.size w wr) (fun i _ => n - (intOf i).toNat)
  case atStart => exact ⟨0, by omega, rfl, fun j hj => by omega, Below.refl _ _⟩
  case round =>
    obtain ⟨k, hk, rfl, hj, hb⟩ := hrel
    have hzr := hb.size
    by_cases hkn : k < n
    · obtain ⟨blk, off, rfl, h1, h2, h3⟩ := (hA.below hb (by omega)) (by omega)
      have c0 : wr.cell? ⟨blk, off + k * 3, none⟩ = some (.string (c k)) := h3 k 0 hkn (by omega)
      have c1 : wr.cell? ⟨blk, off + k * 3 + 1, none⟩ = some (.int .i64 (a k)) := h3 k 1 hkn (by omega)
      have c2 : wr.cell? ⟨blk, off + k * 3 + 2, none⟩ = some (.int .i64 (b k)) := h3 k 2 hkn (by omega)
      clear h3 hA
      have hpk := (perB_iff.1 ((pd_facts HP.out).2 k hkn).1).2
      have l0 : blk < wr.heap.size := by omega
      cases e0 : ((c k).toList == s.toList) with
      | false =>
        have HG : Hid (atI c a b s m k = false) := by show _ = _; rw [str_beq] at e0; simp [atI, e0]
        go_wp2_with (go_at_call 42; refine (l1In_any _ _ _ _).mono ?_; rintro e w' ⟨rfl, rfl⟩)
        go_roundw
        case rel => exact ⟨k + 1, by omega, by go_num, upto_snocF hj.out HG.out, (by repeat (first | (with_reducible exact Below.refl _ _) | (with_reducible refine below_ov ?_ ?_) | (with_reducible refine Below.setCell ?_ ?_ _) | (with_reducible refine Below.alloc ?_ ?_ _) | (with_reducible refine Below.drew ?_) | (with_reducible refine below_drewN ?_ _) | (refine Below.trans ?_ (Below.mono ‹Below _ _ _› (by first | omega | (simp; done) | (simp; omega)))) | exact Below.refl _ _ | omega | (focus (simp; done)) | (focus (simp; omega))))⟩
        case measure => simp [intOf]; omega
      | true =>
        cases e1 : inB m (a k) (b k - 1) with
        | false =>
          have HG : Hid (atI c a b s m k = false) := by show _ = _; simp [atI, e1]
          go_wp2_with (go_at_call 42; refine (l1In_any _ _ _ _).mono ?_; rintro e w' ⟨rfl, rfl⟩)
          go_roundw
          case rel => exact ⟨k + 1, by omega, by go_num, upto_snocF hj.out HG.out, (by repeat (first | (with_reducible exact Below.refl _ _) | (with_reducible refine below_ov ?_ ?_) | (with_reducible refine Below.setCell ?_ ?_ _) | (with_reducible refine Below.alloc ?_ ?_ _) | (with_reducible refine Below.drew ?_) | (with_reducible refine below_drewN ?_ _) | (refine Below.trans ?_ (Below.mono ‹Below _ _ _› (by first | omega | (simp; done) | (simp; omega)))) | exact Below.refl _ _ | omega | (focus (simp; done)) | (focus (simp; omega))))⟩
          case measure => simp [intOf]; omega
        | true =>
          have HG : Hid (fstI (atI c a b s m) n = k) := fstI_at hkn hj.out (by rw [str_beq] at e0; simp [atI, of_decide_eq_true e0, e1])
          go_wp2_with (go_at_call 42; refine (l1In_any _ _ _ _).mono ?_; rintro e w' ⟨rfl, rfl⟩)
          go_ret
          exact ⟨ret_int HG.out.symm, (by repeat (first | (with_reducible exact Below.refl _ _) | (with_reducible refine below_ov ?_ ?_) | (with_reducible refine Below.setCell ?_ ?_ _) | (with_reducible refine Below.alloc ?_ ?_ _) | (with_reducible refine Below.drew ?_) | (with_reducible refine below_drewN ?_ _) | (refine Below.trans ?_ (Below.mono ‹Below _ _ _› (by first | omega | (simp; done) | (simp; omega)))) | exact Below.refl _ _ | omega | (focus (simp; done)) | (focus (simp; omega))))⟩
    · obtain rfl : k = n := by omega
      go_wp2_with fail
      go_ret
      exact ⟨ret_int (fstI_none hj.out).symm, hb⟩
set_option maxRecDepth 100000 in
set_option maxHeartbeats 1600000 in
theorem RestOf_spec (c : Nat → ByteArray) (a b : Nat → Int) (n : Nat) (s : ByteArray) (m : Int) (lo hi : Nat) (v : Value) (w : World) (hv : Sl w lo hi 3 v n (siiC c a b)) (hhi : hi ≤ w.heap.size) (hf : pfits c n) (hs : s.size ≤ maxLen) :
    Calls Try.prog 7 #[v, .string s, .int .i64 m] w fun e w' => e = .returned (.tuple #[.int .i64 (restN c a b n s m), .bool (restOk c a b n s m)]) ∧ Below w.heap.size w w' := by
  obtain ⟨A, cap, rfl, hcap, hA⟩ := hv.open_
  have hn := hf.1
  cases hx : askP c a b n s m with
  | false =>
    have HR := hide (rest_ask hx)
    go_enter Try.func7, Try.ntmps7
    go_wp2_with (go_at_call 34; refine (rfAsked_any c a b n s m lo hi _ _ hv hhi hf hs).mono ?_; rintro e w1 ⟨rfl, hb1⟩; have hz1 := hb1.size; (try (simp at hz1)); obtain ⟨hcw1, hfw1⟩ := bcell hb1; (try (have hy1 : w.heap.size < w1.heap.size := by omega)); (try (have hyy1 : w.heap.size + 1 < w1.heap.size := by omega)); (try (have hyyy1 : w.heap.size + 1 + 1 < w1.heap.size := by omega)))
    go_ret2
    exact ⟨ret_ib HR.out.1.symm HR.out.2.symm, (by repeat (first | (with_reducible exact Below.refl _ _) | (with_reducible refine below_ov ?_ ?_) | (with_reducible refine Below.setCell ?_ ?_ _) | (with_reducible refine Below.alloc ?_ ?_ _) | (with_reducible refine Below.drew ?_) | (with_reducible refine below_drewN ?_ _) | (refine Below.trans ?_ (Below.mono ‹Below _ _ _› (by first | omega | (simp; done) | (simp; omega)))) | exact Below.refl _ _ | omega | (focus (simp; done)) | (focus (simp; omega))))⟩
  | true =>
    have HX := hide hx
    have HP := hide (ask_facts hx).1
    have hm := (ask_facts hx).2
    cases hy : anyAt c a b n s m with
    | true =>
      have HR := hide (rest_at hx hy)
      have hy' : decide (0 ≤ fstI (atI c a b s m) n) = true := hy
      go_enter Try.func7, Try.ntmps7
      go_wp2_with (first | (go_at_call 34; refine (rfAsked_any c a b n s m lo hi _ _ hv hhi hf hs).mono ?_; rintro e w1 ⟨rfl, hb1⟩; have hz1 := hb1.size; (try (simp at hz1)); obtain ⟨hcw1, hfw1⟩ := bcell hb1; (try (have hy1 : w.heap.size < w1.heap.size := by omega)); (try (have hyy1 : w.heap.size + 1 < w1.heap.size := by omega)); (try (have hyyy1 : w.heap.size + 1 + 1 < w1.heap.size := by omega))) | (go_at_call 35; refine (rfAt_any c a b n s m lo hi _ _ (hv.below (B := w.heap.size) (by repeat (first | (with_reducible exact Below.refl _ _) | (with_reducible refine below_ov ?_ ?_) | (with_reducible refine Below.setCell ?_ ?_ _) | (with_reducible refine Below.alloc ?_ ?_ _) | (with_reducible refine Below.drew ?_) | (with_reducible refine below_drewN ?_ _) | (refine Below.trans ?_ (Below.mono ‹Below _ _ _› (by first | omega | (simp; done) | (simp; omega)))) | exact Below.refl _ _ | omega | (focus (simp; done)) | (focus (simp; omega)))) hhi) (by first | omega | (simp; done) | (simp; omega)) hn HP.out).mono ?_; rintro e w2 ⟨rfl, hb2⟩; have hz2 := hb2.size; (try (simp at hz2)); obtain ⟨hcw2, hfw2⟩ := bcell hb2; (try (have hy2 : w.heap.size < w2.heap.size := by omega)); (try (have hyy2 : w.heap.size + 1 < w2.heap.size := by omega)); (try (have hyyy2 : w.heap.size + 1 + 1 < w2.heap.size := by omega))))
      go_ret2
      exact ⟨ret_ib HR.out.1.symm HR.out.2.symm, (by repeat (first | (with_reducible exact Below.refl _ _) | (with_reducible refine below_ov ?_ ?_) | (with_reducible refine Below.setCell ?_ ?_ _) | (with_reducible refine Below.alloc ?_ ?_ _) | (with_reducible refine Below.drew ?_) | (with_reducible refine below_drewN ?_ _) | (refine Below.trans ?_ (Below.mono ‹Below _ _ _› (by first | omega | (simp; done) | (simp; omega)))) | exact Below.refl _ _ | omega | (focus (simp; done)) | (focus (simp; omega))))⟩
    | false =>
      have HY := hide hy
      have hy' : decide (0 ≤ fstI (atI c a b s m) n) = false := hy
      go_enter Try.func7, Try.ntmps7
      go_wp2_with (first | (go_at_call 34; refine (rfAsked_any c a b n s m lo hi _ _ hv hhi hf hs).mono ?_; rintro e w1 ⟨rfl, hb1⟩; have hz1 := hb1.size; (try (simp at hz1)); obtain ⟨hcw1, hfw1⟩ := bcell hb1; (try (have hy1 : w.heap.size < w1.heap.size := by omega)); (try (have hyy1 : w.heap.size + 1 < w1.heap.size := by omega)); (try (have hyyy1 : w.heap.size + 1 + 1 < w1.heap.size := by omega))) | (go_at_call 35; refine (rfAt_any c a b n s m lo hi _ _ (hv.below (B := w.heap.size) (by repeat (first | (with_reducible exact Below.refl _ _) | (with_reducible refine below_ov ?_ ?_) | (with_reducible refine Below.setCell ?_ ?_ _) | (with_reducible refine Below.alloc ?_ ?_ _) | (with_reducible refine Below.drew ?_) | (with_reducible refine below_drewN ?_ _) | (refine Below.trans ?_ (Below.mono ‹Below _ _ _› (by first | omega | (simp; done) | (simp; omega)))) | exact Below.refl _ _ | omega | (focus (simp; done)) | (focus (simp; omega)))) hhi) (by first | omega | (simp; done) | (simp; omega)) hn HP.out).mono ?_; rintro e w2 ⟨rfl, hb2⟩; have hz2 := hb2.size; (try (simp at hz2)); obtain ⟨hcw2, hfw2⟩ := bcell hb2; (try (have hy2 : w.heap.size < w2.heap.size := by omega)); (try (have hyy2 : w.heap.size + 1 < w2.heap.size := by omega)); (try (have hyyy2 : w.heap.size + 1 + 1 < w2.heap.size := by omega))))
      have hb0 : Below w.heap.size w w2 := (by repeat (first | (with_reducible exact Below.refl _ _) | (with_reducible refine below_ov ?_ ?_) | (with_reducible refine Below.setCell ?_ ?_ _) | (with_reducible refine Below.alloc ?_ ?_ _) | (with_reducible refine Below.drew ?_) | (with_reducible refine below_drewN ?_ _) | (refine Below.trans ?_ (Below.mono ‹Below _ _ _› (by first | omega | (simp; done) | (simp; omega)))) | exact Below.refl _ _ | omega | (focus (simp; done)) | (focus (simp; omega))))
      go_loopw [8, 23] (fun x i wr => ∃ k : Nat, k ≤ n ∧ i = .int .i64 k ∧ x = .int .i64 (rsF c b s m k) ∧ Below w.heap.size w wr) (fun _ i _ => n - (intOf i).toNat)
      case atStart => exact ⟨0, by omega, rfl, rfl, hb0⟩
      case round =>
        obtain ⟨k, hk, rfl, rfl, hb⟩ := hrel
        have hzr := hb.size
        have hw := rs_bd (c := c) (b := b) (s := s) (m := m) k
        by_cases hkn : k < n
        · obtain ⟨blk, off, rfl, h1, h2, h3⟩ := (hA.below hb (by omega)) (by omega)
          have c0 : wr.cell? ⟨blk, off + k * 3, none⟩ = some (.string (c k)) := h3 k 0 hkn (by omega)
          have c1 : wr.cell? ⟨blk, off + k * 3 + 1, none⟩ = some (.int .i64 (a k)) := h3 k 1 hkn (by omega)
          have c2 : wr.cell? ⟨blk, off + k * 3 + 2, none⟩ = some (.int .i64 (b k)) := h3 k 2 hkn (by omega)
          clear h3 hA
          have hpk := (perB_iff.1 ((pd_facts HP.out).2 k hkn).1).2
          cases e0 : ((c k).toList == s.toList) with
          | false =>
            have HG : Hid (rsF c b s m (k + 1) = rsF c b s m k) := rs_no fun h => by rw [str_beq, h.1] at e0; simp at e0
            go_wp2_with fail
            go_roundw
            case rel => exact ⟨k + 1, by omega, by go_num, by rw [HG.out], (by repeat (first | (with_reducible exact Below.refl _ _) | (with_reducible refine below_ov ?_ ?_) | (with_reducible refine Below.setCell ?_ ?_ _) | (with_reducible refine Below.alloc ?_ ?_ _) | (with_reducible refine Below.drew ?_) | (with_reducible refine below_drewN ?_ _) | (refine Below.trans ?_ (Below.mono ‹Below _ _ _› (by first | omega | (simp; done) | (simp; omega)))) | exact Below.refl _ _ | omega | (focus (simp; done)) | (focus (simp; omega))))⟩
            case measure => simp [intOf]; omega
          | true =>
            cases e1 : decide (b k ≤ m) with
            | false =>
              have HG : Hid (rsF c b s m (k + 1) = rsF c b s m k) := rs_no fun h => of_decide_eq_false e1 h.2
              go_wp2_with fail
              go_roundw
              case rel => exact ⟨k + 1, by omega, by go_num, by rw [HG.out], (by repeat (first | (with_reducible exact Below.refl _ _) | (with_reducible refine below_ov ?_ ?_) | (with_reducible refine Below.setCell ?_ ?_ _) | (with_reducible refine Below.alloc ?_ ?_ _) | (with_reducible refine Below.drew ?_) | (with_reducible refine below_drewN ?_ _) | (refine Below.trans ?_ (Below.mono ‹Below _ _ _› (by first | omega | (simp; done) | (simp; omega)))) | exact Below.refl _ _ | omega | (focus (simp; done)) | (focus (simp; omega))))⟩
              case measure => simp [intOf]; omega
            | true =>
              have HG : Hid (rsF c b s m (k + 1) = max (rsF c b s m k) (b k)) := rs_yes (by rw [str_beq] at e0; exact of_decide_eq_true e0) (of_decide_eq_true e1)
              go_wp2_with (go_at_call 36; refine (l1Most_any _ _ _).mono ?_; rintro e w' ⟨rfl, rfl⟩)
              go_roundw
              case rel => exact ⟨k + 1, by omega, by go_num, by rw [HG.out], (by repeat (first | (with_reducible exact Below.refl _ _) | (with_reducible refine below_ov ?_ ?_) | (with_reducible refine Below.setCell ?_ ?_ _) | (with_reducible refine Below.alloc ?_ ?_ _) | (with_reducible refine Below.drew ?_) | (with_reducible refine below_drewN ?_ _) | (refine Below.trans ?_ (Below.mono ‹Below _ _ _› (by first | omega | (simp; done) | (simp; omega)))) | exact Below.refl _ _ | omega | (focus (simp; done)) | (focus (simp; omega))))⟩
              case measure => simp [intOf]; omega
        · obtain rfl : k = n := by omega
          cases ez : decide (rsF c b s m k < 0) with
          | true =>
            have HR := hide (rest_no HX.out HY.out ez)
            go_wp2_with fail
            go_ret2
            exact ⟨ret_ib HR.out.1.symm HR.out.2.symm, hb⟩
          | false =>
            have HR := hide (rest_yes HX.out HY.out ez)
            go_wp2_with fail
            go_ret2
            exact ⟨ret_ib HR.out.1.symm HR.out.2.symm, hb⟩
set_option maxRecDepth 100000 in
set_option maxHeartbeats 1600000 in
theorem RestOf_impl (c : Nat → ByteArray) (a b : Nat → Int) (n : Nat) (s : ByteArray) (m : Int) (lo hi : Nat) (v : Value) (w : World) (hv : Sl w lo hi 3 v n (siiC c a b)) (hhi : hi ≤ w.heap.size) (hf : pfits c n) (hs : s.size ≤ maxLen) :
    Calls Try.prog 6 #[v, .string s, .int .i64 m] w fun e w' => e = .returned (.tuple #[.int .i64 (restN c a b n s m), .bool (restOk c a b n s m)]) ∧ Below w.heap.size w w' := by
  obtain ⟨A, cap, rfl, hcap, hA⟩ := hv.open_
  have hn := hf.1
  cases hc1_0 : pdB c a b n with
  | false =>
    have HR := hide (rest_ask (c := c) (a := a) (b := b) (n := n) (s := s) (m := m) (by simp [askP, *]))
    go_enter Try.func6, Try.ntmps6
    go_wp2_with (first | (go_at_call 30; refine (arePeriods_any c a b n lo hi _ _ hv hhi hf).mono ?_; rintro e w1 ⟨rfl, hb1⟩; have hz1 := hb1.size; (try (simp at hz1)); obtain ⟨hcw1, hfw1⟩ := bcell hb1; (try (have hy1 : w.heap.size < w1.heap.size := by omega)); (try (have hyy1 : w.heap.size + 1 < w1.heap.size := by omega)); (try (have hyyy1 : w.heap.size + 1 + 1 < w1.heap.size := by omega))) | (go_at_call 31; refine (isName_any _ _ hs).mono ?_; rintro e w2 ⟨rfl, hd2⟩; obtain ⟨n2, rfl⟩ := hd2) | (go_at_call 32; refine (isMinute_any _ _).mono ?_; rintro e w' ⟨rfl, rfl⟩))
    go_ret2
    exact ⟨ret_ib HR.out.1.symm HR.out.2.symm, (by repeat (first | (with_reducible exact Below.refl _ _) | (with_reducible refine below_ov ?_ ?_) | (with_reducible refine Below.setCell ?_ ?_ _) | (with_reducible refine Below.alloc ?_ ?_ _) | (with_reducible refine Below.drew ?_) | (with_reducible refine below_drewN ?_ _) | (refine Below.trans ?_ (Below.mono ‹Below _ _ _› (by first | omega | (simp; done) | (simp; omega)))) | exact Below.refl _ _ | omega | (focus (simp; done)) | (focus (simp; omega))))⟩
  | true =>
    cases hc1_1 : nameB s with
    | false =>
      have HR := hide (rest_ask (c := c) (a := a) (b := b) (n := n) (s := s) (m := m) (by simp [askP, *]))
      go_enter Try.func6, Try.ntmps6
      go_wp2_with (first | (go_at_call 30; refine (arePeriods_any c a b n lo hi _ _ hv hhi hf).mono ?_; rintro e w1 ⟨rfl, hb1⟩; have hz1 := hb1.size; (try (simp at hz1)); obtain ⟨hcw1, hfw1⟩ := bcell hb1; (try (have hy1 : w.heap.size < w1.heap.size := by omega)); (try (have hyy1 : w.heap.size + 1 < w1.heap.size := by omega)); (try (have hyyy1 : w.heap.size + 1 + 1 < w1.heap.size := by omega))) | (go_at_call 31; refine (isName_any _ _ hs).mono ?_; rintro e w2 ⟨rfl, hd2⟩; obtain ⟨n2, rfl⟩ := hd2) | (go_at_call 32; refine (isMinute_any _ _).mono ?_; rintro e w' ⟨rfl, rfl⟩))
      go_ret2
      exact ⟨ret_ib HR.out.1.symm HR.out.2.symm, (by repeat (first | (with_reducible exact Below.refl _ _) | (with_reducible refine below_ov ?_ ?_) | (with_reducible refine Below.setCell ?_ ?_ _) | (with_reducible refine Below.alloc ?_ ?_ _) | (with_reducible refine Below.drew ?_) | (with_reducible refine below_drewN ?_ _) | (refine Below.trans ?_ (Below.mono ‹Below _ _ _› (by first | omega | (simp; done) | (simp; omega)))) | exact Below.refl _ _ | omega | (focus (simp; done)) | (focus (simp; omega))))⟩
    | true =>
      cases hc1_2 : inB m 0 9999 with
      | false =>
        have HR := hide (rest_ask (c := c) (a := a) (b := b) (n := n) (s := s) (m := m) (by simp [askP, *]))
        go_enter Try.func6, Try.ntmps6
        go_wp2_with (first | (go_at_call 30; refine (arePeriods_any c a b n lo hi _ _ hv hhi hf).mono ?_; rintro e w1 ⟨rfl, hb1⟩; have hz1 := hb1.size; (try (simp at hz1)); obtain ⟨hcw1, hfw1⟩ := bcell hb1; (try (have hy1 : w.heap.size < w1.heap.size := by omega)); (try (have hyy1 : w.heap.size + 1 < w1.heap.size := by omega)); (try (have hyyy1 : w.heap.size + 1 + 1 < w1.heap.size := by omega))) | (go_at_call 31; refine (isName_any _ _ hs).mono ?_; rintro e w2 ⟨rfl, hd2⟩; obtain ⟨n2, rfl⟩ := hd2) | (go_at_call 32; refine (isMinute_any _ _).mono ?_; rintro e w' ⟨rfl, rfl⟩))
        go_ret2
        exact ⟨ret_ib HR.out.1.symm HR.out.2.symm, (by repeat (first | (with_reducible exact Below.refl _ _) | (with_reducible refine below_ov ?_ ?_) | (with_reducible refine Below.setCell ?_ ?_ _) | (with_reducible refine Below.alloc ?_ ?_ _) | (with_reducible refine Below.drew ?_) | (with_reducible refine below_drewN ?_ _) | (refine Below.trans ?_ (Below.mono ‹Below _ _ _› (by first | omega | (simp; done) | (simp; omega)))) | exact Below.refl _ _ | omega | (focus (simp; done)) | (focus (simp; omega))))⟩
      | true =>
        obtain ⟨hc1_2l, hc1_2r⟩ := inB_iff.1 hc1_2
        have HX : Hid (askP c a b n s m = true) := by show _ = _; simp [askP, *]
        have HP := hide (ask_facts HX.out).1
        go_enter Try.func6, Try.ntmps6
        go_wp2_with (first | (go_at_call 30; refine (arePeriods_any c a b n lo hi _ _ hv hhi hf).mono ?_; rintro e w1 ⟨rfl, hb1⟩; have hz1 := hb1.size; (try (simp at hz1)); obtain ⟨hcw1, hfw1⟩ := bcell hb1; (try (have hy1 : w.heap.size < w1.heap.size := by omega)); (try (have hyy1 : w.heap.size + 1 < w1.heap.size := by omega)); (try (have hyyy1 : w.heap.size + 1 + 1 < w1.heap.size := by omega))) | (go_at_call 31; refine (isName_any _ _ hs).mono ?_; rintro e w2 ⟨rfl, hd2⟩; obtain ⟨n2, rfl⟩ := hd2) | (go_at_call 32; refine (isMinute_any _ _).mono ?_; rintro e w' ⟨rfl, rfl⟩))
        have hb0 : Below w.heap.size w (w1.drewN n2) := (by repeat (first | (with_reducible exact Below.refl _ _) | (with_reducible refine below_ov ?_ ?_) | (with_reducible refine Below.setCell ?_ ?_ _) | (with_reducible refine Below.alloc ?_ ?_ _) | (with_reducible refine Below.drew ?_) | (with_reducible refine below_drewN ?_ _) | (refine Below.trans ?_ (Below.mono ‹Below _ _ _› (by first | omega | (simp; done) | (simp; omega)))) | exact Below.refl _ _ | omega | (focus (simp; done)) | (focus (simp; omega))))
        go_loopw [8, 26] (fun x i wr => ∃ k : Nat, k ≤ n ∧ i = .int .i64 k ∧ x = .int .i64 (rsF c b s m k) ∧ Hid (∀ j, j < k → atI c a b s m j = false) ∧ Below w.heap.size w wr) (fun _ i _ => n - (intOf i).toNat)
        case atStart => exact ⟨0, by omega, rfl, rfl, fun j hj => by omega, hb0⟩
        case round =>
          obtain ⟨k, hk, rfl, rfl, hj, hb⟩ := hrel
          have hzr := hb.size
          have hw := rs_bd (c := c) (b := b) (s := s) (m := m) k
          by_cases hkn : k < n
          · obtain ⟨blk, off, rfl, h1, h2, h3⟩ := (hA.below hb (by omega)) (by omega)
            have c0 : wr.cell? ⟨blk, off + k * 3, none⟩ = some (.string (c k)) := h3 k 0 hkn (by omega)
            have c1 : wr.cell? ⟨blk, off + k * 3 + 1, none⟩ = some (.int .i64 (a k)) := h3 k 1 hkn (by omega)
            have c2 : wr.cell? ⟨blk, off + k * 3 + 2, none⟩ = some (.int .i64 (b k)) := h3 k 2 hkn (by omega)
            clear h3 hA
            have hpk := (perB_iff.1 ((pd_facts HP.out).2 k hkn).1).2
            cases e0 : ((c k).toList == s.toList) with
            | false =>
              have HG : Hid (rsF c b s m (k + 1) = rsF c b s m k) := rs_no fun h => by rw [str_beq, h.1] at e0; simp at e0
              have HT : Hid (atI c a b s m k = false) := by show _ = _; rw [str_beq] at e0; simp [atI, e0]
              have e0' : ((c k).toList != s.toList) = true := by simp [bne, e0]
              go_wp2_with fail
              go_roundw
              case rel => exact ⟨k + 1, by omega, by go_num, by rw [HG.out], upto_snocF hj.out HT.out, (by repeat (first | (with_reducible exact Below.refl _ _) | (with_reducible refine below_ov ?_ ?_) | (with_reducible refine Below.setCell ?_ ?_ _) | (with_reducible refine Below.alloc ?_ ?_ _) | (with_reducible refine Below.drew ?_) | (with_reducible refine below_drewN ?_ _) | (refine Below.trans ?_ (Below.mono ‹Below _ _ _› (by first | omega | (simp; done) | (simp; omega)))) | exact Below.refl _ _ | omega | (focus (simp; done)) | (focus (simp; omega))))⟩
              case measure => simp [intOf]; omega
            | true =>
              have e0' : ((c k).toList != s.toList) = false := by simp [bne, e0]
              cases e5 : inB m (a k) (b k - 1) with
              | true =>
                have HR : Hid (restN c a b n s m = 0 ∧ restOk c a b n s m = true) := by
                  refine rest_at HX.out ?_
                  rw [str_beq] at e0
                  rw [anyAt, fstI_at hkn hj.out (by simp [atI, of_decide_eq_true e0, e5])]
                  simp
                go_wp2_with (go_at_call 33; refine (inside_any _ _ _ _).mono ?_; rintro e w' ⟨rfl, rfl⟩)
                go_ret2
                exact ⟨ret_ib HR.out.1.symm HR.out.2.symm, (by repeat (first | (with_reducible exact Below.refl _ _) | (with_reducible refine below_ov ?_ ?_) | (with_reducible refine Below.setCell ?_ ?_ _) | (with_reducible refine Below.alloc ?_ ?_ _) | (with_reducible refine Below.drew ?_) | (with_reducible refine below_drewN ?_ _) | (refine Below.trans ?_ (Below.mono ‹Below _ _ _› (by first | omega | (simp; done) | (simp; omega)))) | exact Below.refl _ _ | omega | (focus (simp; done)) | (focus (simp; omega))))⟩
              | false =>
                have HT : Hid (atI c a b s m k = false) := by show _ = _; simp [atI, e5]
                cases e1 : decide (b k ≤ m) with
                | false =>
                  have HG : Hid (rsF c b s m (k + 1) = rsF c b s m k) := rs_no fun h => of_decide_eq_false e1 h.2
                  go_wp2_with (go_at_call 33; refine (inside_any _ _ _ _).mono ?_; rintro e w' ⟨rfl, rfl⟩)
                  go_roundw
                  case rel => exact ⟨k + 1, by omega, by go_num, by rw [HG.out], upto_snocF hj.out HT.out, (by repeat (first | (with_reducible exact Below.refl _ _) | (with_reducible refine below_ov ?_ ?_) | (with_reducible refine Below.setCell ?_ ?_ _) | (with_reducible refine Below.alloc ?_ ?_ _) | (with_reducible refine Below.drew ?_) | (with_reducible refine below_drewN ?_ _) | (refine Below.trans ?_ (Below.mono ‹Below _ _ _› (by first | omega | (simp; done) | (simp; omega)))) | exact Below.refl _ _ | omega | (focus (simp; done)) | (focus (simp; omega))))⟩
                  case measure => simp [intOf]; omega
                | true =>
                  have HG : Hid (rsF c b s m (k + 1) = max (rsF c b s m k) (b k)) := rs_yes (by rw [str_beq] at e0; exact of_decide_eq_true e0) (of_decide_eq_true e1)
                  go_wp2_with (go_at_call 33; refine (inside_any _ _ _ _).mono ?_; rintro e w' ⟨rfl, rfl⟩)
                  all_goals
                    go_roundw
                    case rel => exact ⟨k + 1, by omega, by go_num, by rw [HG.out]; congr 1; omega, upto_snocF hj.out HT.out, (by repeat (first | (with_reducible exact Below.refl _ _) | (with_reducible refine below_ov ?_ ?_) | (with_reducible refine Below.setCell ?_ ?_ _) | (with_reducible refine Below.alloc ?_ ?_ _) | (with_reducible refine Below.drew ?_) | (with_reducible refine below_drewN ?_ _) | (refine Below.trans ?_ (Below.mono ‹Below _ _ _› (by first | omega | (simp; done) | (simp; omega)))) | exact Below.refl _ _ | omega | (focus (simp; done)) | (focus (simp; omega))))⟩
                    case measure => simp [intOf]; omega
          · obtain rfl : k = n := by omega
            have HY : Hid (anyAt c a b k s m = false) := by show _ = _; rw [anyAt, fstI_none hj.out]; rfl
            cases ez : decide (rsF c b s m k < 0) with
            | true =>
              have HR := hide (rest_no HX.out HY.out ez)
              go_wp2_with fail
              go_ret2
              exact ⟨ret_ib HR.out.1.symm HR.out.2.symm, hb⟩
            | false =>
              have HR := hide (rest_yes HX.out HY.out ez)
              go_wp2_with fail
              go_ret2
              exact ⟨ret_ib HR.out.1.symm HR.out.2.symm, hb⟩

end Go.Proofs.Ythchfnkljmoenaa

/-
  Walks: who is due, when to relieve: the starts of spells.-/
namespace Go.Proofs.Ythchfnkljmoenaa
set_option linter.unusedVariables false
set_option linter.unusedSimpArgs false
open Go.RowKit

set_option maxRecDepth 100000 in
set_option maxHeartbeats 1600000 in
theorem rfStart_any (c : Nat → ByteArray) (a b : Nat → Int) (n i : Nat) (lo hi : Nat) (v : Value) (w : World) (hv : Sl w lo hi 3 v n (siiC c a b)) (hhi : hi ≤ w.heap.size) (hn : n ≤ 1048576) (hp : pdB c a b n = true) (hin : i < n) :
    Calls Try.prog 59 #[v, .int .i64 i] w fun e w' => e = .returned (.int .i64 (stF c a b i)) ∧ Below w.heap.size w w' := by
  obtain ⟨A, cap, rfl, hcap, hA⟩ := hv.open_
  obtain ⟨blk, off, rfl, h1, h2, h3⟩ := hA (by omega)
  have HP := hide hp
  have i0 : w.cell? ⟨blk, off + i * 3, none⟩ = some (.string (c i)) := h3 i 0 hin (by omega)
  have i1 : w.cell? ⟨blk, off + i * 3 + 1, none⟩ = some (.int .i64 (a i)) := h3 i 1 hin (by omega)
  have H3 := hide h3
  have HE := hide (st_ref hp hin)
  clear hp h3 hv hA
  go_enter Try.func59, Try.ntmps59
  go_wp2_with fail
  go_loopw [5, 6] (fun f k wr => ∃ (m : Nat) (F : Int), m ≤ i + 1 ∧ k = .int .i64 ((m : Int) - 1) ∧ f = .int .i64 F ∧ Hid (sc c a b (c i) m F = stF c a b i) ∧ Below w.heap.size w wr) (fun _ k _ => (intOf k + 1).toNat)
  case atStart => exact ⟨i + 1, a i, by omega, by go_num, rfl, HE.out, Below.refl _ _⟩
  case round =>
    obtain ⟨m, F, hm, rfl, rfl, hF, hb⟩ := hrel
    have j0 := (hb.cell (p := ⟨blk, off + i * 3, none⟩) (by show blk < _; omega)).trans i0
    have l0 : blk < wr.heap.size := by have := hb.size; omega
    rcases Nat.eq_zero_or_pos m with h0 | h0
    · have d0 : decide ((m : Int) - 1 ≥ 0) = false := by simp; omega
      have d1 : decide ((1 : Int) ≤ (m : Int)) = false := by simp; omega
      have HX : Hid (F = stF c a b i) := by
        show _ = _
        rw [← hF.out, h0]; rfl
      clear h0
      go_wp2_with fail
      go_ret
      exact ⟨ret_int HX.out, hb⟩
    · obtain ⟨m', rfl⟩ : ∃ m' : Nat, m = m' + 1 := ⟨m - 1, by omega⟩
      have k0 : wr.cell? ⟨blk, off + m' * 3, none⟩ = some (.string (c m')) := (hb.cell (p := ⟨blk, off + m' * 3, none⟩) (by show blk < _; omega)).trans (H3.out m' 0 (by omega) (by omega))
      have k1 : wr.cell? ⟨blk, off + m' * 3 + 1, none⟩ = some (.int .i64 (a m')) := (hb.cell (p := ⟨blk, off + m' * 3 + 1, none⟩) (by show blk < _; omega)).trans (H3.out m' 1 (by omega) (by omega))
      have k2 : wr.cell? ⟨blk, off + m' * 3 + 2, none⟩ = some (.int .i64 (b m')) := (hb.cell (p := ⟨blk, off + m' * 3 + 2, none⟩) (by show blk < _; omega)).trans (H3.out m' 2 (by omega) (by omega))
      have e : (((m' + 1 : Nat) : Int) - 1) = (m' : Int) := by omega
      rw [e]
      clear e
      have q0 : (0 : Int) ≤ (m' : Int) := by omega
      have q1 : (m' : Int) < (n : Int) := by omega
      have q2 : (i : Int) < (n : Int) := by omega
      cases e0 : ((c m').toList == (c i).toList) with
      | false =>
        have HG : Hid (sc c a b (c i) m' F = stF c a b i) := by
          show _ = _
          rw [← hF.out, sc, if_neg]
          intro h; rw [str_beq, h.1] at e0; simp at e0
        go_wp2_with fail
        go_quiet (fail)
        go_wp2_with fail
        go_roundw
        case rel => exact ⟨m', F, by omega, by go_num, rfl, HG, (by repeat (first | (with_reducible exact Below.refl _ _) | (with_reducible refine below_ov ?_ ?_) | (with_reducible refine Below.setCell ?_ ?_ _) | (with_reducible refine Below.alloc ?_ ?_ _) | (with_reducible refine Below.drew ?_) | (with_reducible refine below_drewN ?_ _) | (refine Below.trans ?_ (Below.mono ‹Below _ _ _› (by first | omega | (simp; done) | (simp; omega)))) | exact Below.refl _ _ | omega | (focus (simp; done)) | (focus (simp; omega))))⟩
        case measure => simp [intOf]
      | true =>
        cases e1 : (b m' == F) with
        | false =>
          have HG : Hid (sc c a b (c i) m' F = stF c a b i) := by
            show _ = _
            rw [← hF.out, sc, if_neg]
            intro h; rw [h.2] at e1; simp at e1
          go_wp2_with fail
          go_quiet (fail)
          go_wp2_with fail
          go_roundw
          case rel => exact ⟨m', F, by omega, by go_num, rfl, HG, (by repeat (first | (with_reducible exact Below.refl _ _) | (with_reducible refine below_ov ?_ ?_) | (with_reducible refine Below.setCell ?_ ?_ _) | (with_reducible refine Below.alloc ?_ ?_ _) | (with_reducible refine Below.drew ?_) | (with_reducible refine below_drewN ?_ _) | (refine Below.trans ?_ (Below.mono ‹Below _ _ _› (by first | omega | (simp; done) | (simp; omega)))) | exact Below.refl _ _ | omega | (focus (simp; done)) | (focus (simp; omega))))⟩
          case measure => simp [intOf]
        | true =>
          have HG : Hid (sc c a b (c i) m' (a m') = stF c a b i) := by
            show _ = _
            rw [← hF.out, sc, if_pos ⟨by rw [str_beq] at e0; exact of_decide_eq_true e0, by simpa using e1⟩]
          go_wp2_with fail
          go_quiet (fail)
          go_wp2_with fail
          go_roundw
          case rel => exact ⟨m', a m', by omega, by go_num, rfl, HG, (by repeat (first | (with_reducible exact Below.refl _ _) | (with_reducible refine below_ov ?_ ?_) | (with_reducible refine Below.setCell ?_ ?_ _) | (with_reducible refine Below.alloc ?_ ?_ _) | (with_reducible refine Below.drew ?_) | (with_reducible refine below_drewN ?_ _) | (refine Below.trans ?_ (Below.mono ‹Below _ _ _› (by first | omega | (simp; done) | (simp; omega)))) | exact Below.refl _ _ | omega | (focus (simp; done)) | (focus (simp; omega))))⟩
          case measure => simp [intOf]
set_option maxRecDepth 100000 in
set_option maxHeartbeats 1600000 in
theorem rfDue_any (c : Nat → ByteArray) (a b : Nat → Int) (n : Nat) (s : ByteArray) (m q : Int) (lo hi : Nat) (v : Value) (w : World) (hv : Sl w lo hi 3 v n (siiC c a b)) (hhi : hi ≤ w.heap.size) (hn : n ≤ 1048576) (hp : pdB c a b n = true) (hm : 0 ≤ m) (hm' : m ≤ 9999) :
    Calls Try.prog 50 #[v, .string s, .int .i64 m, .int .i64 q] w fun e w' => e = .returned (.bool (dueB c a b s m n q)) ∧ Below w.heap.size w w' := by
  have HP := hide hp
  clear hp
  go_enter Try.func50, Try.ntmps50
  go_wp2_with fail
  refine (rfAt_any c a b n s m lo hi _ _ hv hhi hn HP.out).mono ?_
  rintro e w1 ⟨rfl, hb1⟩
  have hz1 := hb1.size
  rcases fstI_cases (atI c a b s m) n with ⟨e1, _⟩ | ⟨k, hk, e1, _, _⟩
  · have HE : Hid (dueB c a b s m n q = false) := by show _ = _; simp [dueB, e1]
    rw [e1]
    clear e1
    go_wp2_with fail
    go_ret
    exact ⟨ret_bool HE.out.symm, (by repeat (first | (with_reducible exact Below.refl _ _) | (with_reducible refine below_ov ?_ ?_) | (with_reducible refine Below.setCell ?_ ?_ _) | (with_reducible refine Below.alloc ?_ ?_ _) | (with_reducible refine Below.drew ?_) | (with_reducible refine below_drewN ?_ _) | (refine Below.trans ?_ (Below.mono ‹Below _ _ _› (by first | omega | (simp; done) | (simp; omega)))) | exact Below.refl _ _ | omega | (focus (simp; done)) | (focus (simp; omega))))⟩
  · have HE : Hid (dueB c a b s m n q = decide (q ≤ m - stF c a b k)) := by show _ = _; simp [dueB, e1]
    have hst := st_bd (i := k) HP.out k hk
    have hpk := (perB_iff.1 ((pd_facts HP.out).2 k hk).1).2
    rw [e1]
    clear e1
    go_wp2_with (go_at_call 59; refine (rfStart_any c a b n k lo hi _ _ (hv.below (B := w.heap.size) (by repeat (first | (with_reducible exact Below.refl _ _) | (with_reducible refine below_ov ?_ ?_) | (with_reducible refine Below.setCell ?_ ?_ _) | (with_reducible refine Below.alloc ?_ ?_ _) | (with_reducible refine Below.drew ?_) | (with_reducible refine below_drewN ?_ _) | (refine Below.trans ?_ (Below.mono ‹Below _ _ _› (by first | omega | (simp; done) | (simp; omega)))) | exact Below.refl _ _ | omega | (focus (simp; done)) | (focus (simp; omega)))) hhi) (by omega) hn HP.out hk).mono ?_; rintro e w2 ⟨rfl, hb2⟩; have hz2 := hb2.size; (try (simp at hz2)); obtain ⟨hcw2, hfw2⟩ := bcell hb2; (try (have hy2 : w.heap.size < w2.heap.size := by omega)); (try (have hyy2 : w.heap.size + 1 < w2.heap.size := by omega)); (try (have hyyy2 : w.heap.size + 1 + 1 < w2.heap.size := by omega)))
    go_ret
    exact ⟨ret_bool HE.out.symm, (by repeat (first | (with_reducible exact Below.refl _ _) | (with_reducible refine below_ov ?_ ?_) | (with_reducible refine Below.setCell ?_ ?_ _) | (with_reducible refine Below.alloc ?_ ?_ _) | (with_reducible refine Below.drew ?_) | (with_reducible refine below_drewN ?_ _) | (refine Below.trans ?_ (Below.mono ‹Below _ _ _› (by first | omega | (simp; done) | (simp; omega)))) | exact Below.refl _ _ | omega | (focus (simp; done)) | (focus (simp; omega))))⟩
theorem chv_nat {c : Nat → ByteArray} {a b : Nat → Int} {s : ByteArray} {k : Nat} {F : Int} : chv c a b s k F = sc c a b s (k + 1) F := by
  rw [chv, if_neg (by omega), Int.toNat_natCast]
set_option maxRecDepth 100000 in
set_option maxHeartbeats 3200000 in
theorem isDue_any (c : Nat → ByteArray) (a b : Nat → Int) (n : Nat) (s : ByteArray) (m q : Int) (lo hi : Nat) (v : Value) (w : World) (hv : Sl w lo hi 3 v n (siiC c a b)) (hhi : hi ≤ w.heap.size) (hn : n ≤ 1048576) (hp : pdB c a b n = true) (hm : 0 ≤ m) (hm' : m ≤ 9999) :
    Calls Try.prog 48 #[v, .string s, .int .i64 m, .int .i64 q] w fun e w' => e = .returned (.bool (dueB c a b s m n q)) ∧ Below w.heap.size w w' := by
  obtain ⟨A, cap, rfl, hcap, hA⟩ := hv.open_
  have HP := hide hp
  have hA0 := hide hA
  clear hp
  go_enter Try.func48, Try.ntmps48
  go_wp2_with fail
  go_loopw [15] (fun i wr => ∃ k : Nat, k ≤ n ∧ i = .int .i64 k ∧ Hid (∀ j, j < k → atI c a b s m j = false) ∧ Below w.heap.size w wr) (fun i _ => n - (intOf i).toNat)
  case atStart => exact ⟨0, by omega, rfl, fun j hj => by omega, Below.refl _ _⟩
  case round =>
    obtain ⟨k, hk, rfl, hj, hb⟩ := hrel
    have hzr := hb.size
    by_cases hkn : k < n
    · obtain ⟨blk, off, rfl, h1, h2, h3⟩ := (hA.below hb (by omega)) (by omega)
      have c0 : wr.cell? ⟨blk, off + k * 3, none⟩ = some (.string (c k)) := h3 k 0 hkn (by omega)
      have c1 : wr.cell? ⟨blk, off + k * 3 + 1, none⟩ = some (.int .i64 (a k)) := h3 k 1 hkn (by omega)
      have c2 : wr.cell? ⟨blk, off + k * 3 + 2, none⟩ = some (.int .i64 (b k)) := h3 k 2 hkn (by omega)
      clear h3 hA
      have hpk := (perB_iff.1 ((pd_facts HP.out).2 k hkn).1).2
      have l0 : blk < wr.heap.size := by omega
      cases e0 : ((c k).toList == s.toList) with
      | false =>
        have HG : Hid (atI c a b s m k = false) := by show _ = _; rw [str_beq] at e0; simp [atI, e0]
        have e0' : ((c k).toList != s.toList) = true := by simp [bne, e0]
        go_wp2_with (go_at_call 33; refine (inside_any _ _ _ _).mono ?_; rintro e w' ⟨rfl, rfl⟩)
        go_roundw
        case rel => exact ⟨k + 1, by omega, by go_num, upto_snocF hj.out HG.out, (by repeat (first | (with_reducible exact Below.refl _ _) | (with_reducible refine below_ov ?_ ?_) | (with_reducible refine Below.setCell ?_ ?_ _) | (with_reducible refine Below.alloc ?_ ?_ _) | (with_reducible refine Below.drew ?_) | (with_reducible refine below_drewN ?_ _) | (refine Below.trans ?_ (Below.mono ‹Below _ _ _› (by first | omega | (simp; done) | (simp; omega)))) | exact Below.refl _ _ | omega | (focus (simp; done)) | (focus (simp; omega))))⟩
        case measure => simp [intOf]; omega
      | true =>
        have e0' : ((c k).toList != s.toList) = false := by simp [bne, e0]
        cases e1 : inB m (a k) (b k - 1) with
        | false =>
          have HG : Hid (atI c a b s m k = false) := by show _ = _; simp [atI, e1]
          go_wp2_with (go_at_call 33; refine (inside_any _ _ _ _).mono ?_; rintro e w' ⟨rfl, rfl⟩)
          go_roundw
          case rel => exact ⟨k + 1, by omega, by go_num, upto_snocF hj.out HG.out, (by repeat (first | (with_reducible exact Below.refl _ _) | (with_reducible refine below_ov ?_ ?_) | (with_reducible refine Below.setCell ?_ ?_ _) | (with_reducible refine Below.alloc ?_ ?_ _) | (with_reducible refine Below.drew ?_) | (with_reducible refine below_drewN ?_ _) | (refine Below.trans ?_ (Below.mono ‹Below _ _ _› (by first | omega | (simp; done) | (simp; omega)))) | exact Below.refl _ _ | omega | (focus (simp; done)) | (focus (simp; omega))))⟩
          case measure => simp [intOf]; omega
        | true =>
          have HG : Hid (dueB c a b s m n q = decide (q ≤ m - stF c a b k)) := by
            show _ = _
            rw [str_beq] at e0
            rw [dueB, fstI_at hkn hj.out (by simp [atI, of_decide_eq_true e0, e1])]
            simp
          go_wp2_with (first | (go_at_call 33; refine (inside_any _ _ _ _).mono ?_; rintro e w' ⟨rfl, rfl⟩))
          refine (periodBefore_any c a b n k lo hi _ _ (hv.below (B := w.heap.size) (by repeat (first | (with_reducible exact Below.refl _ _) | (with_reducible refine below_ov ?_ ?_) | (with_reducible refine Below.setCell ?_ ?_ _) | (with_reducible refine Below.alloc ?_ ?_ _) | (with_reducible refine Below.drew ?_) | (with_reducible refine below_drewN ?_ _) | (refine Below.trans ?_ (Below.mono ‹Below _ _ _› (by first | omega | (simp; done) | (simp; omega)))) | exact Below.refl _ _ | omega | (focus (simp; done)) | (focus (simp; omega)))) hhi) (by first | omega | (simp; done) | (simp; omega)) hn hkn).mono ?_
          rintro e w2 ⟨rfl, hb2⟩
          have hz2 := hb2.size
          (try (simp at hz2))
          have hb0 : Below w.heap.size w w2 := (by repeat (first | (with_reducible exact Below.refl _ _) | (with_reducible refine below_ov ?_ ?_) | (with_reducible refine Below.setCell ?_ ?_ _) | (with_reducible refine Below.alloc ?_ ?_ _) | (with_reducible refine Below.drew ?_) | (with_reducible refine below_drewN ?_ _) | (refine Below.trans ?_ (Below.mono ‹Below _ _ _› (by first | omega | (simp; done) | (simp; omega)))) | exact Below.refl _ _ | omega | (focus (simp; done)) | (focus (simp; omega))))
          have l2 : blk < w2.heap.size := by omega
          have HV : Hid (∀ t u, t < n → u < 3 → w2.cell? ⟨blk, off + t * 3 + u, none⟩ = some (siiC c a b t u)) := fun t u ht hu => (hb0.cell (p := ⟨blk, off + t * 3 + u, none⟩) (by show blk < _; omega)).trans (by
            obtain ⟨b', o', eb, _, _, h9⟩ := hA0.out (by omega)
            injection eb with eb
            injection eb with e1 e2
            subst e1 e2
            exact h9 t u ht hu)
          go_wp2_with fail
          clear c0 c1 c2
          obtain ⟨wo, rfl⟩ : ∃ wo : World, wo = wr := ⟨_, rfl⟩
          go_loopw [11, 12] (fun f K wi => ∃ t : Nat, t < n ∧ f = .int .i64 (a t) ∧ K = .int .i64 (befI c t) ∧ Hid (c t = c k) ∧ Hid (chv c a b (c k) (befI c t) (a t) = stF c a b k) ∧ Below w2.heap.size w2 wi) (fun _ K _ => (intOf K + 1).toNat)
          case atStart => exact ⟨k, hkn, rfl, rfl, rfl, (ch_from (s := c k) (i := k) (f := a k) rfl).symm, Below.refl _ _⟩
          case round =>
            obtain ⟨t, ht, rfl, rfl, hct, hch, hbi⟩ := hrel
            have hzi := hbi.size
            have hpt := (perB_iff.1 ((pd_facts HP.out).2 t ht).1).2
            have l6 : blk < wr.heap.size := by omega
            by_cases hlt : befI c t < 0
            · have d0 : decide (befI c t ≥ 0) = false := by simp; omega
              have HX : Hid (a t = stF c a b k) := by show _ = _; rw [← hch.out, chv, if_pos hlt]
              go_wp2_with fail
              go_ret
              exact ⟨ret_bool (by rw [HG.out, ← HX.out]), (by repeat (first | (with_reducible exact Below.refl _ _) | (with_reducible refine below_ov ?_ ?_) | (with_reducible refine Below.setCell ?_ ?_ _) | (with_reducible refine Below.alloc ?_ ?_ _) | (with_reducible refine Below.drew ?_) | (with_reducible refine below_drewN ?_ _) | (refine Below.trans ?_ (Below.mono ‹Below _ _ _› (by first | omega | (simp; done) | (simp; omega)))) | exact Below.refl _ _ | omega | (focus (simp; done)) | (focus (simp; omega))))⟩
            · obtain ⟨j, hjj⟩ : ∃ j : Nat, befI c t = j := ⟨(befI c t).toNat, by omega⟩
              obtain ⟨j1, j2, _⟩ := befI_facts hjj
              have k1 : wr.cell? ⟨blk, off + j * 3 + 1, none⟩ = some (.int .i64 (a j)) := (hbi.cell (p := ⟨blk, off + j * 3 + 1, none⟩) l2).trans (HV.out j 1 (by omega) (by omega))
              have k2 : wr.cell? ⟨blk, off + j * 3 + 2, none⟩ = some (.int .i64 (b j)) := (hbi.cell (p := ⟨blk, off + j * 3 + 2, none⟩) l2).trans (HV.out j 2 (by omega) (by omega))
              have J2 := hide j2
              have JJ := hide hjj
              have HJ : Hid (sc c a b (c k) (j + 1) (a t) = stF c a b k) := by
                show _ = _
                rw [← hch.out, hjj, chv_nat]
              have hble := befI_facts (c := c) (i := j) (k := j)
              rw [hjj]
              clear hjj j2 hlt hble
              have q0 : (0 : Int) ≤ (j : Int) := by omega
              have q1 : (j : Int) < (n : Int) := by omega
              cases e5 : (b j == a t) with
              | false =>
                have HX : Hid (a t = stF c a b k) := by
                  show _ = _
                  rw [← HJ.out, ← hct.out]
                  exact (ch_end HP.out ht JJ.out (by simpa using e5)).symm
                go_wp2_with fail
                go_ret
                exact ⟨ret_bool (by rw [HG.out, ← HX.out]), (by repeat (first | (with_reducible exact Below.refl _ _) | (with_reducible refine below_ov ?_ ?_) | (with_reducible refine Below.setCell ?_ ?_ _) | (with_reducible refine Below.alloc ?_ ?_ _) | (with_reducible refine Below.drew ?_) | (with_reducible refine below_drewN ?_ _) | (refine Below.trans ?_ (Below.mono ‹Below _ _ _› (by first | omega | (simp; done) | (simp; omega)))) | exact Below.refl _ _ | omega | (focus (simp; done)) | (focus (simp; omega))))⟩
              | true =>
                have HX : Hid (chv c a b (c k) (befI c j) (a j) = stF c a b k) := by
                  show _ = _
                  rw [← HJ.out]
                  exact (ch_step (J2.out.trans hct.out) (by simpa using e5)).symm
                have hbd : -1 ≤ befI c j ∧ befI c j < j := lstI_bd _ _
                go_wp2_with fail
                refine (periodBefore_any c a b n j lo hi _ _ (hv.below (B := w.heap.size) (by repeat (first | (with_reducible exact Below.refl _ _) | (with_reducible refine below_ov ?_ ?_) | (with_reducible refine Below.setCell ?_ ?_ _) | (with_reducible refine Below.alloc ?_ ?_ _) | (with_reducible refine Below.drew ?_) | (with_reducible refine below_drewN ?_ _) | (refine Below.trans ?_ (Below.mono ‹Below _ _ _› (by first | omega | (simp; done) | (simp; omega)))) | exact Below.refl _ _ | omega | (focus (simp; done)) | (focus (simp; omega)))) hhi) (by omega) hn (by omega)).mono ?_
                rintro e w5 ⟨rfl, hb5⟩
                have hz5 := hb5.size
                go_wp2_with fail
                go_roundw
                case rel => exact ⟨j, by omega, rfl, rfl, hide (J2.out.trans hct.out), HX, (by repeat (first | (with_reducible exact Below.refl _ _) | (with_reducible refine below_ov ?_ ?_) | (with_reducible refine Below.setCell ?_ ?_ _) | (with_reducible refine Below.alloc ?_ ?_ _) | (with_reducible refine Below.drew ?_) | (with_reducible refine below_drewN ?_ _) | (refine Below.trans ?_ (Below.mono ‹Below _ _ _› (by first | omega | (simp; done) | (simp; omega)))) | exact Below.refl _ _ | omega | (focus (simp; done)) | (focus (simp; omega))))⟩
                case measure => simp [intOf]; omega
    · obtain rfl : k = n := by omega
      have HE : Hid (dueB c a b s m k q = false) := by show _ = _; simp [dueB, fstI_none hj.out]
      go_wp2_with fail
      go_ret
      exact ⟨ret_bool HE.out.symm, hb⟩

end Go.Proofs.Ythchfnkljmoenaa
