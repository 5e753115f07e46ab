/-
  Walks: how long a crew has rested; where it works.
-/
import Derived.Test.YtaijbihjkbpoeaaWPer4
import Derived.Test.YtaijbihjkbpoeaaPPer3
namespace Go.Proofs.Ytaijbihjkbpoeaa
set_option linter.unusedVariables false
set_option linter.unusedSimpArgs false
open Go.RowKit

def anyAt (c : Nat → ByteArray) (a b : Nat → Int) (n : Nat) (s : ByteArray) (m : Int) : Bool := decide (0 ≤ fstI (atI c a b s m) n)
def restOk (c : Nat → ByteArray) (a b : Nat → Int) (n : Nat) (s : ByteArray) (m : Int) : Bool := askP c a b n s m && (anyAt c a b n s m || !decide (rsF c b s m n < 0))
def restN (c : Nat → ByteArray) (a b : Nat → Int) (n : Nat) (s : ByteArray) (m : Int) : Int := if (restOk c a b n s m && !anyAt c a b n s m) = true then m - rsF c b s m n else 0
theorem rest_ask {c : Nat → ByteArray} {a b : Nat → Int} {n : Nat} {s : ByteArray} {m : Int} (h : askP c a b n s m = false) : restN c a b n s m = 0 ∧ restOk c a b n s m = false := by simp [restN, restOk, h]
theorem rest_at {c : Nat → ByteArray} {a b : Nat → Int} {n : Nat} {s : ByteArray} {m : Int} (h : askP c a b n s m = true) (h' : anyAt c a b n s m = true) : restN c a b n s m = 0 ∧ restOk c a b n s m = true := by simp [restN, restOk, h, h']
theorem rest_no {c : Nat → ByteArray} {a b : Nat → Int} {n : Nat} {s : ByteArray} {m : Int} (h : askP c a b n s m = true) (h' : anyAt c a b n s m = false) (h'' : decide (rsF c b s m n < 0) = true) : restN c a b n s m = 0 ∧ restOk c a b n s m = false := by simp [restN, restOk, h, h', h'']
theorem rest_yes {c : Nat → ByteArray} {a b : Nat → Int} {n : Nat} {s : ByteArray} {m : Int} (h : askP c a b n s m = true) (h' : anyAt c a b n s m = false) (h'' : decide (rsF c b s m n < 0) = false) : restN c a b n s m = m - rsF c b s m n ∧ restOk c a b n s m = true := by simp [restN, restOk, h, h', h'']

set_option maxRecDepth 100000 in
set_option maxHeartbeats 1600000 in
theorem rfAt_any (c : Nat → ByteArray) (a b : Nat → Int) (n : Nat) (s : ByteArray) (m : Int) (lo hi : Nat) (v : Value) (w : World) (hv : Sl w lo hi 3 v n (siiC c a b)) (hhi : hi ≤ w.heap.size) (hn : n ≤ 1048576) (hp : pdB c a b n = true) :
    Calls Try.prog 66 #[v, .string s, .int .i64 m] w fun e w' => e = .returned (.int .i64 (fstI (atI c a b s m) n)) ∧ Below w.heap.size w w' := by
  obtain ⟨A, cap, rfl, hcap, hA⟩ := hv.open_
  have HP := hide hp
  clear hp
  go_enter Try.func66, Try.ntmps66
  go_wp2_with fail
  go_loopw [11] (fun i wr => ∃ k : Nat, k ≤ n ∧ i = .int .i64 k ∧ Hid (∀ j, j < k → atI c a b s m j = false) ∧ Below w.heap.size w wr) (fun i _ => n - (intOf i).toNat)
  case atStart => exact ⟨0, by omega, rfl, fun j hj => by omega, Below.refl _ _⟩
  case round =>
    obtain ⟨k, hk, rfl, hj, hb⟩ := hrel
    have hzr := hb.size
    by_cases hkn : k < n
    · obtain ⟨blk, off, rfl, h1, h2, h3⟩ := (hA.below hb (by omega)) (by omega)
      have c0 : wr.cell? ⟨blk, off + k * 3, none⟩ = some (.string (c k)) := h3 k 0 hkn (by omega)
      have c1 : wr.cell? ⟨blk, off + k * 3 + 1, none⟩ = some (.int .i64 (a k)) := h3 k 1 hkn (by omega)
      have c2 : wr.cell? ⟨blk, off + k * 3 + 2, none⟩ = some (.int .i64 (b k)) := h3 k 2 hkn (by omega)
      clear h3 hA
      have hpk := (perB_iff.1 ((pd_facts HP.out).2 k hkn).1).2
      have l0 : blk < wr.heap.size := by omega
      cases e0 : ((c k).toList == s.toList) with
      | false =>
        have HG : Hid (atI c a b s m k = false) := by show _ = _; rw [str_beq] at e0; simp [atI, e0]
        go_wp2_with (go_at_call 49; refine (l1In_any _ _ _ _).mono ?_; rintro e w' ⟨rfl, rfl⟩)
        go_roundw
        case rel => exact ⟨k + 1, by omega, by go_num, upto_snocF hj.out HG.out, (by repeat (first | (with_reducible exact Below.refl _ _) | (with_reducible refine below_ov ?_ ?_) | (with_reducible refine Below.setCell ?_ ?_ _) | (with_reducible refine Below.alloc ?_ ?_ _) | (with_reducible refine Below.drew ?_) | (with_reducible refine below_drewN ?_ _) | (refine Below.trans ?_ (Below.mono ‹Below _ _ _› (by first | omega | (simp; done) | (simp; omega)))) | exact Below.refl _ _ | omega | (focus (simp; done)) | (focus (simp; omega))))⟩
        case measure => simp [intOf]; omega
      | true =>
        cases e1 : inB m (a k) (b k - 1) with
        | false =>
          have HG : Hid (atI c a b s m k = false) := by show _ = _; simp [atI, e1]
          go_wp2_with (go_at_call 49; refine (l1In_any _ _ _ _).mono ?_; rintro e w' ⟨rfl, rfl⟩)
          go_roundw
          case rel => exact ⟨k + 1, by omega, by go_num, upto_snocF hj.out HG.out, (by repeat (first | (with_reducible exact Below.refl _ _) | (with_reducible refine below_ov ?_ ?_) | (with_reducible refine Below.setCell ?_ ?_ _) | (with_reducible refine Below.alloc ?_ ?_ _) | (with_reducible refine Below.drew ?_) | (with_reducible refine below_drewN ?_ _) | (refine Below.trans ?_ (Below.mono ‹Below _ _ _› (by first | omega | (simp; done) | (simp; omega)))) | exact Below.refl _ _ | omega | (focus (simp; done)) | (focus (simp; omega))))⟩
          case measure => simp [intOf]; omega
        | true =>
          have HG : Hid (fstI (atI c a b s m) n = k) := fstI_at hkn hj.out (by rw [str_beq] at e0; simp [atI, of_decide_eq_true e0, e1])
          go_wp2_with (go_at_call 49; refine (l1In_any _ _ _ _).mono ?_; rintro e w' ⟨rfl, rfl⟩)
          go_ret
          exact ⟨ret_int HG.out.symm, (by repeat (first | (with_reducible exact Below.refl _ _) | (with_reducible refine below_ov ?_ ?_) | (with_reducible refine Below.setCell ?_ ?_ _) | (with_reducible refine Below.alloc ?_ ?_ _) | (with_reducible refine Below.drew ?_) | (with_reducible refine below_drewN ?_ _) | (refine Below.trans ?_ (Below.mono ‹Below _ _ _› (by first | omega | (simp; done) | (simp; omega)))) | exact Below.refl _ _ | omega | (focus (simp; done)) | (focus (simp; omega))))⟩
    · obtain rfl : k = n := by omega
      go_wp2_with fail
      go_ret
      exact ⟨ret_int (fstI_none hj.out).symm, hb⟩

end Go.Proofs.Ytaijbihjkbpoeaa
