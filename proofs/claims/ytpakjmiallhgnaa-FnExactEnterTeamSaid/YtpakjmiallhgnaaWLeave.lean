/-
  Walks: a team leaves: the program.
-/
import Derived.Test.YtpakjmiallhgnaaWDel
import Derived.Test.YtpakjmiallhgnaaWFind
namespace Go.Proofs.Ytpakjmiallhgnaa
set_option linter.unusedVariables false
set_option linter.unusedSimpArgs false
open Go.RowKit

def lvOk (T : Nat → Tm) (n : Nat) (s : ByteArray) : Bool := bdB T n && fdB T n s
def lvN (T : Nat → Tm) (n : Nat) (s : ByteArray) : Nat := if lvOk T n s = true then n - 1 else 0
def lvT (T : Nat → Tm) (n : Nat) (s : ByteArray) (i : Nat) : Tm := T (skp (fdK T n s) i)
theorem lvN_le {T : Nat → Tm} {n : Nat} {s : ByteArray} (hf : tfits T n) : lvN T n s ≤ n := by
  unfold lvN
  split <;> omega
theorem lvT_fits {T : Nat → Tm} {n : Nat} {s : ByteArray} (hf : tfits T n) : tfits (lvT T n s) (lvN T n s) := by
  refine ⟨Nat.le_trans (lvN_le hf) hf.1, fun i hi => hf.2 _ ?_⟩
  unfold lvN at hi
  split at hi
  · have := skp_le (k := fdK T n s) hi
    omega
  · omega
theorem bd_pos {T : Nat → Tm} {n : Nat} (h : bdB T n = true) : ∀ i, i < n → 0 < (T i).n := fun i hi => by
  have := (tm_facts ((bd_facts h).2 i hi).1).2.2.2.1
  omega
theorem fdB_lt {T : Nat → Tm} {n : Nat} {s : ByteArray} (h : fdB T n s = true) : fdK T n s < n := by
  simp only [fdB, Bool.and_eq_true, decide_eq_true_eq] at h
  exact h.1
/-- What the call hands back. -/
def BrdRes (T : Nat → Tm) (n : Nat) (ok : Bool) (w : World) (e : Ending) (w' : World) : Prop := ∃ v', e = .returned (.tuple #[v', .bool ok]) ∧ OwnT w' w.heap.size w'.heap.size v' n T ∧ Below w.heap.size w w'
theorem brd_nil {T : Nat → Tm} {n : Nat} {w w' : World} (h : n = 0) (hb : Below w.heap.size w w') : BrdRes T n false w (.returned (.tuple #[.slice none 0 0, .bool false])) w' :=
  ⟨_, rfl, by rw [h]; exact OwnT.nil_ _ _ _ _, hb⟩
set_option maxRecDepth 100000 in
set_option maxHeartbeats 3200000 in
theorem LeaveTeam_impl (T : Nat → Tm) (n : Nat) (s : ByteArray) (lo hi : Nat) (v : Value) (w : World) (hv : SlT w lo hi v n T) (hhi : hi ≤ w.heap.size) (hf : tfits T n) (hms : s.size ≤ maxLen) :
    Calls Try.prog 18 #[v, .string s] w (BrdRes (lvT T n s) (lvN T n s) (lvOk T n s) w) := by
  obtain ⟨A, cap, rfl, hcap⟩ := hv.open_
  have hn : n ≤ 1048576 := hf.1
  cases hB : bdB T n with
  | false =>
    have HF : Hid (lvOk T n s = false) := by show _ = _; simp [lvOk, hB]
    have HN : Hid (lvN T n s = 0) := by show _ = _; rw [lvN, HF.out]; rfl
    go_enter Try.func18, Try.ntmps18
    go_wp2_with fail
    refine (findTeam_any T n s lo hi _ _ (hv.below (B := w.heap.size) (by repeat (first | (with_reducible exact Below.refl _ _) | (with_reducible refine below_ov ?_ ?_) | (with_reducible refine Below.setCell ?_ ?_ _) | (with_reducible refine Below.alloc ?_ ?_ _) | (with_reducible refine Below.drew ?_) | (with_reducible refine below_drewN ?_ _) | (refine Below.trans ?_ (Below.mono ‹Below _ _ _› (by first | omega | (simp; done) | (simp; omega)))) | exact Below.refl _ _ | omega | (focus (simp; done)) | (focus (simp; omega)))) hhi) hhi hn).mono ?_
    rintro e w1 ⟨rfl, hb1⟩
    have hz1 := hb1.size
    go_wp2_with fail
    refine (isBoard_any T n lo hi _ _ (hv.below (B := w.heap.size) (by repeat (first | (with_reducible exact Below.refl _ _) | (with_reducible refine below_ov ?_ ?_) | (with_reducible refine Below.setCell ?_ ?_ _) | (with_reducible refine Below.alloc ?_ ?_ _) | (with_reducible refine Below.drew ?_) | (with_reducible refine below_drewN ?_ _) | (refine Below.trans ?_ (Below.mono ‹Below _ _ _› (by first | omega | (simp; done) | (simp; omega)))) | exact Below.refl _ _ | omega | (focus (simp; done)) | (focus (simp; omega)))) hhi) (by first | omega | (simp; done) | (simp; omega)) hf).mono ?_
    rintro e w2 ⟨rfl, hb2⟩
    have hz2 := hb2.size
    rw [hB]
    go_wp2_with fail
    go_ret2
    rw [HF.out]
    exact brd_nil HN.out (by repeat (first | (with_reducible exact Below.refl _ _) | (with_reducible refine below_ov ?_ ?_) | (with_reducible refine Below.setCell ?_ ?_ _) | (with_reducible refine Below.alloc ?_ ?_ _) | (with_reducible refine Below.drew ?_) | (with_reducible refine below_drewN ?_ _) | (refine Below.trans ?_ (Below.mono ‹Below _ _ _› (by first | omega | (simp; done) | (simp; omega)))) | exact Below.refl _ _ | omega | (focus (simp; done)) | (focus (simp; omega))))
  | true =>
    have HB := hide hB
    cases hF : fdB T n s with
    | false =>
      have HF : Hid (lvOk T n s = false) := by show _ = _; simp [lvOk, hF]
      have HN : Hid (lvN T n s = 0) := by show _ = _; rw [lvN, HF.out]; rfl
      have HA : Hid (fstI (nmP T s) n = -1) := by show _ = _; rw [fd_eq HB.out, hF]; rfl
      go_enter Try.func18, Try.ntmps18
      go_wp2_with fail
      refine (findTeam_any T n s lo hi _ _ (hv.below (B := w.heap.size) (by repeat (first | (with_reducible exact Below.refl _ _) | (with_reducible refine below_ov ?_ ?_) | (with_reducible refine Below.setCell ?_ ?_ _) | (with_reducible refine Below.alloc ?_ ?_ _) | (with_reducible refine Below.drew ?_) | (with_reducible refine below_drewN ?_ _) | (refine Below.trans ?_ (Below.mono ‹Below _ _ _› (by first | omega | (simp; done) | (simp; omega)))) | exact Below.refl _ _ | omega | (focus (simp; done)) | (focus (simp; omega)))) hhi) hhi hn).mono ?_
      rintro e w1 ⟨rfl, hb1⟩
      have hz1 := hb1.size
      rw [HA.out]
      go_wp2_with fail
      refine (isBoard_any T n lo hi _ _ (hv.below (B := w.heap.size) (by repeat (first | (with_reducible exact Below.refl _ _) | (with_reducible refine below_ov ?_ ?_) | (with_reducible refine Below.setCell ?_ ?_ _) | (with_reducible refine Below.alloc ?_ ?_ _) | (with_reducible refine Below.drew ?_) | (with_reducible refine below_drewN ?_ _) | (refine Below.trans ?_ (Below.mono ‹Below _ _ _› (by first | omega | (simp; done) | (simp; omega)))) | exact Below.refl _ _ | omega | (focus (simp; done)) | (focus (simp; omega)))) hhi) (by first | omega | (simp; done) | (simp; omega)) hf).mono ?_
      rintro e w2 ⟨rfl, hb2⟩
      have hz2 := hb2.size
      rw [hB]
      go_wp2_with fail
      go_ret2
      rw [HF.out]
      exact brd_nil HN.out (by repeat (first | (with_reducible exact Below.refl _ _) | (with_reducible refine below_ov ?_ ?_) | (with_reducible refine Below.setCell ?_ ?_ _) | (with_reducible refine Below.alloc ?_ ?_ _) | (with_reducible refine Below.drew ?_) | (with_reducible refine below_drewN ?_ _) | (refine Below.trans ?_ (Below.mono ‹Below _ _ _› (by first | omega | (simp; done) | (simp; omega)))) | exact Below.refl _ _ | omega | (focus (simp; done)) | (focus (simp; omega))))
    | true =>
      have HE : Hid (lvOk T n s = true) := by show _ = _; simp [lvOk, hF, HB.out]
      have hkn := fdB_lt hF
      obtain ⟨k, hk⟩ : ∃ k, k = fdK T n s := ⟨_, rfl⟩
      rw [← hk] at hkn
      obtain ⟨d, rfl⟩ : ∃ d, n = k + d + 1 := ⟨n - 1 - k, by omega⟩
      have HN : Hid (lvN T (k + d + 1) s = k + d) := by show _ = _; rw [lvN, HE.out]; simp
      have HT : Hid (lvT T (k + d + 1) s = fun i => T (skp k i)) := by show _ = _; funext i; rw [lvT, ← hk]
      have HA : Hid (fstI (nmP T s) (k + d + 1) = (k : Int)) := by show _ = _; rw [fd_eq HB.out, hF, ← hk]; rfl
      have hn6 := (bd_facts HB.out).1
      clear hk hF
      go_enter Try.func18, Try.ntmps18
      go_wp2_with fail
      refine (findTeam_any T _ s lo hi _ _ (hv.below (B := w.heap.size) (by repeat (first | (with_reducible exact Below.refl _ _) | (with_reducible refine below_ov ?_ ?_) | (with_reducible refine Below.setCell ?_ ?_ _) | (with_reducible refine Below.alloc ?_ ?_ _) | (with_reducible refine Below.drew ?_) | (with_reducible refine below_drewN ?_ _) | (refine Below.trans ?_ (Below.mono ‹Below _ _ _› (by first | omega | (simp; done) | (simp; omega)))) | exact Below.refl _ _ | omega | (focus (simp; done)) | (focus (simp; omega)))) hhi) hhi hn).mono ?_
      rintro e w1 ⟨rfl, hb1⟩
      have hz1 := hb1.size
      rw [HA.out]
      go_wp2_with fail
      refine (isBoard_any T _ lo hi _ _ (hv.below (B := w.heap.size) (by repeat (first | (with_reducible exact Below.refl _ _) | (with_reducible refine below_ov ?_ ?_) | (with_reducible refine Below.setCell ?_ ?_ _) | (with_reducible refine Below.alloc ?_ ?_ _) | (with_reducible refine Below.drew ?_) | (with_reducible refine below_drewN ?_ _) | (refine Below.trans ?_ (Below.mono ‹Below _ _ _› (by first | omega | (simp; done) | (simp; omega)))) | exact Below.refl _ _ | omega | (focus (simp; done)) | (focus (simp; omega)))) hhi) (by first | omega | (simp; done) | (simp; omega)) hf).mono ?_
      rintro e w2 ⟨rfl, hb2⟩
      have hz2 := hb2.size
      rw [hB]
      go_wp2_with fail
      refine (copyBoard_any T _ lo hi _ _ (hv.below (B := w.heap.size) (by repeat (first | (with_reducible exact Below.refl _ _) | (with_reducible refine below_ov ?_ ?_) | (with_reducible refine Below.setCell ?_ ?_ _) | (with_reducible refine Below.alloc ?_ ?_ _) | (with_reducible refine Below.drew ?_) | (with_reducible refine below_drewN ?_ _) | (refine Below.trans ?_ (Below.mono ‹Below _ _ _› (by first | omega | (simp; done) | (simp; omega)))) | exact Below.refl _ _ | omega | (focus (simp; done)) | (focus (simp; omega)))) hhi) (by first | omega | (simp; done) | (simp; omega)) hf (bd_pos HB.out)).mono ?_
      rintro e w3 ⟨v3, rfl, ⟨γ, β, ck, hx, hin⟩, hb3⟩
      have hz3 := hb3.size
      obtain ⟨A3, c3, rfl, hc3, hA3⟩ := hx.own.open_
      obtain ⟨g, rfl, g1, g2⟩ := hA3 (by omega)
      obtain rfl : γ = g := by omega
      have hg := hin.1 (by omega)
      have hc1 : ∀ i, i < k + d + 1 → (ck i).oneCell' = true := fun i hi => by
        obtain ⟨_, _, e, _⟩ := (hx.sub i hi).open_
        rw [e]; rfl
      have HX := hide hx
      have HIn := hide hin
      have HC := hide hc1
      clear hx hin hc1 hA3
      go_wp2_with fail
      refine (DeleteTeam_any T k d γ c3 β ck _ HX.out hn6 (by omega) HC.out).mono ?_
      rintro e w4 ⟨rfl, hX4, hO4⟩
      have hz4 := hO4.size
      have HX4 := hide hX4
      clear hX4
      go_wp2_with fail
      go_ret2
      rw [HE.out, HN.out, HT.out]
      refine ⟨_, rfl, ⟨γ, _, _, HX4.out, fun _ => by omega, fun i hi => ?_⟩, ?_⟩
      · have := HIn.out.2 _ (skp_le (k := k) hi)
        show w.heap.size ≤ β (skp k i) ∧ β (skp k i) < _
        omega
      · have hb03 : Below w.heap.size w w3 := (by repeat (first | (with_reducible exact Below.refl _ _) | (with_reducible refine below_ov ?_ ?_) | (with_reducible refine Below.setCell ?_ ?_ _) | (with_reducible refine Below.alloc ?_ ?_ _) | (with_reducible refine Below.drew ?_) | (with_reducible refine below_drewN ?_ _) | (refine Below.trans ?_ (Below.mono ‹Below _ _ _› (by first | omega | (simp; done) | (simp; omega)))) | exact Below.refl _ _ | omega | (focus (simp; done)) | (focus (simp; omega))))
        exact hb03.trans (hO4.below (by omega) (by omega))

end Go.Proofs.Ytpakjmiallhgnaa
