/-
  Walks: the laws' own words on a team: a copy, a size, a comparison.
-/
import Derived.Test.YtpakjmiallhgnaaWTm
import Derived.Test.YtpakjmiallhgnaaDCheck
import Derived.Deep.Heap
namespace Go.Proofs.Ytpakjmiallhgnaa
set_option linter.unusedVariables false
set_option linter.unusedSimpArgs false
open Go.RowKit

def szTF (left : Int) (T : Tm) : Int := if left < T.s.size then -1 else leftF (left - T.s.size) T.n
def Tm.some (T : Tm) : Prop := T.s.size ≤ maxLen ∧ T.n ≤ 9223372036854775807
theorem szTF_le {left : Int} {T : Tm} (h : 0 ≤ left) : -1 ≤ szTF left T ∧ szTF left T ≤ left := by
  unfold szTF leftF
  split
  · omega
  · split <;> omega
theorem szTF_n {left : Int} {T : Tm} (h : 0 ≤ szTF left T) : (T.s.size : Int) ≤ left ∧ (T.n : Int) ≤ left := by
  unfold szTF leftF at h
  split at h
  · omega
  · split at h <;> omega
set_option maxRecDepth 100000 in
set_option maxHeartbeats 1600000 in
theorem szTeam_any (T : Tm) (left : Int) (lo hi : Nat) (vc : Value) (w : World) (hs : Sl w lo hi 2 vc T.n (iiC T.m T.b)) (hl : 0 ≤ left) (hl' : left ≤ 1048576) (hf : T.some) :
    Calls Try.prog 43 #[.agg #[.string T.s, .int .i64 T.v, .int .i64 T.y, vc], .int .i64 left] w fun e w' => e = .returned (.int .i64 (szTF left T)) ∧ Below w.heap.size w w' := by
  obtain ⟨f1, f2⟩ := hf
  unfold maxLen at f1
  obtain ⟨A, cap, rfl, hcap, hA⟩ := hs.open_
  by_cases h : left < T.s.size
  · have hd : decide (left - (T.s.size : Int) < 0) = true := by simp; omega
    go_enter Try.func43, Try.ntmps43
    go_wp2_with fail
    go_ret
    exact ⟨ret_int (by rw [szTF, if_pos h]), (by repeat (first | (with_reducible exact Below.refl _ _) | (with_reducible refine below_ov ?_ ?_) | (with_reducible refine Below.setCell ?_ ?_ _) | (with_reducible refine Below.alloc ?_ ?_ _) | (with_reducible refine Below.drew ?_) | (with_reducible refine below_drewN ?_ _) | (refine Below.trans ?_ (Below.mono ‹Below _ _ _› (by first | omega | (simp; done) | (simp; omega)))) | exact Below.refl _ _ | omega | (focus (simp; done)) | (focus (simp; omega))))⟩
  · have hd : decide (left - (T.s.size : Int) < 0) = false := by simp; omega
    have HE : Hid (szTF left T = leftF (left - T.s.size) T.n) := by show _ = _; rw [szTF, if_neg h]
    cases h2 : decide (leftF (left - T.s.size) T.n < 0) with
    | true =>
      have HF : Hid (szTF left T = -1) := by
        show _ = _
        rw [HE.out]
        have := of_decide_eq_true h2
        unfold leftF at *
        split <;> omega
      go_enter Try.func43, Try.ntmps43
      go_wp2_with (go_at_call 101; refine (szCheckS_any _ _ _ _ _ (by omega) (by omega) (by omega)).mono ?_; rintro e w' ⟨rfl, rfl⟩)
      go_ret
      exact ⟨ret_int HF.out.symm, (by repeat (first | (with_reducible exact Below.refl _ _) | (with_reducible refine below_ov ?_ ?_) | (with_reducible refine Below.setCell ?_ ?_ _) | (with_reducible refine Below.alloc ?_ ?_ _) | (with_reducible refine Below.drew ?_) | (with_reducible refine below_drewN ?_ _) | (refine Below.trans ?_ (Below.mono ‹Below _ _ _› (by first | omega | (simp; done) | (simp; omega)))) | exact Below.refl _ _ | omega | (focus (simp; done)) | (focus (simp; omega))))⟩
    | false =>
      go_enter Try.func43, Try.ntmps43
      go_wp2_with (go_at_call 101; refine (szCheckS_any _ _ _ _ _ (by omega) (by omega) (by omega)).mono ?_; rintro e w' ⟨rfl, rfl⟩)
      go_ret
      exact ⟨ret_int HE.out.symm, (by repeat (first | (with_reducible exact Below.refl _ _) | (with_reducible refine below_ov ?_ ?_) | (with_reducible refine Below.setCell ?_ ?_ _) | (with_reducible refine Below.alloc ?_ ?_ _) | (with_reducible refine Below.drew ?_) | (with_reducible refine below_drewN ?_ _) | (refine Below.trans ?_ (Below.mono ‹Below _ _ _› (by first | omega | (simp; done) | (simp; omega)))) | exact Below.refl _ _ | omega | (focus (simp; done)) | (focus (simp; omega))))⟩
theorem Own.aside {w : World} {lo hi E sz n k : Nat} {v : Value} {c : Nat → Nat → Value} (h : Own w lo hi E sz v n k c) {a : Addr} (ha : a.block < lo) (u : Value) : Own (w.setCell a u) lo hi E sz v n k c :=
  h.keep fun b h1 h2 => Deep.blk_setCell_other _ _ _ _ (by omega)
set_option maxRecDepth 100000 in
set_option maxHeartbeats 1600000 in
theorem toTeam_big (T : Tm) (lo hi : Nat) (vc : Value) (w : World) (hs : Sl w lo hi 2 vc T.n (iiC T.m T.b)) (hhi : hi ≤ w.heap.size) (hf : T.fits) :
    Calls Try.prog 45 #[.agg #[.string T.s, .int .i64 T.v, .int .i64 T.y, vc]] w fun e w' => ∃ u, e = .returned (.agg #[.string T.s, .int .i64 T.v, .int .i64 T.y, u]) ∧ Own w' w.heap.size w'.heap.size 47 2 u T.n T.n (iiC T.m T.b) ∧ w.heap.size < w'.heap.size ∧ Below w.heap.size w w' := by
  go_enter Try.func45, Try.ntmps45
  go_wp2_with fail
  refine (toCheckS_any T.m T.b T.n lo hi vc _ (hs.below (B := w.heap.size) (by repeat (first | (with_reducible exact Below.refl _ _) | (with_reducible refine below_ov ?_ ?_) | (with_reducible refine Below.setCell ?_ ?_ _) | (with_reducible refine Below.alloc ?_ ?_ _) | (with_reducible refine Below.drew ?_) | (with_reducible refine below_drewN ?_ _) | (refine Below.trans ?_ (Below.mono ‹Below _ _ _› (by first | omega | (simp; done) | (simp; omega)))) | exact Below.refl _ _ | omega | (focus (simp; done)) | (focus (simp; omega)))) hhi) (by first | omega | (simp; done) | (simp; omega)) hf.2).mono ?_
  rintro e w1 ⟨u1, rfl, ho1, hb1⟩
  have hz1 := hb1.size
  simp at hz1
  obtain ⟨A1, k1, rfl, hk1, _⟩ := ho1.sl.open_
  obtain ⟨hcw1, hfw1⟩ := bcell hb1
  have o0 : w1.cell? ⟨w.heap.size + 1 + 1, 0, none⟩ = some (.string T.s) := (hb1.cell (p := ⟨w.heap.size + 1 + 1, 0, none⟩) (by simp)).trans (World.cell?_alloc_at _ _ _ _ (by simp))
  have o1 : w1.cell? ⟨w.heap.size + 1 + 1, 1, none⟩ = some (.int .i64 T.v) := (hb1.cell (p := ⟨w.heap.size + 1 + 1, 1, none⟩) (by simp)).trans (World.cell?_alloc_at _ _ _ _ (by simp))
  have o2 : w1.cell? ⟨w.heap.size + 1 + 1, 2, none⟩ = some (.int .i64 T.y) := (hb1.cell (p := ⟨w.heap.size + 1 + 1, 2, none⟩) (by simp)).trans (World.cell?_alloc_at _ _ _ _ (by simp))
  have o3 : w1.cell? ⟨w.heap.size + 1 + 1, 3, none⟩ = some (.slice none 0 0) := (hb1.cell (p := ⟨w.heap.size + 1 + 1, 3, none⟩) (by simp)).trans (World.cell?_alloc_at _ _ _ _ (by simp))
  have r0 : w1.cell? ⟨w.heap.size + 1, 0, none⟩ = some (.string ⟨#[]⟩) := (hb1.cell (p := ⟨w.heap.size + 1, 0, none⟩) (by simp <;> omega)).trans ((World.cell?_alloc_lt _ _ _ (by simp)).trans (World.cell?_alloc_at _ _ _ _ (by simp)))
  have r1 : w1.cell? ⟨w.heap.size + 1, 1, none⟩ = some (.int .i64 0) := (hb1.cell (p := ⟨w.heap.size + 1, 1, none⟩) (by simp <;> omega)).trans ((World.cell?_alloc_lt _ _ _ (by simp)).trans (World.cell?_alloc_at _ _ _ _ (by simp)))
  have r2 : w1.cell? ⟨w.heap.size + 1, 2, none⟩ = some (.int .i64 0) := (hb1.cell (p := ⟨w.heap.size + 1, 2, none⟩) (by simp <;> omega)).trans ((World.cell?_alloc_lt _ _ _ (by simp)).trans (World.cell?_alloc_at _ _ _ _ (by simp)))
  have r3 : w1.cell? ⟨w.heap.size + 1, 3, none⟩ = some (.slice none 0 0) := (hb1.cell (p := ⟨w.heap.size + 1, 3, none⟩) (by simp <;> omega)).trans ((World.cell?_alloc_lt _ _ _ (by simp)).trans (World.cell?_alloc_at _ _ _ _ (by simp)))
  have q1 : ∀ o, w1.frozen? ⟨w.heap.size + 1 + 1, o, none⟩ = false := fun o => (hfw1 _ _ (by simp)).trans (by simp [go_sem])
  have q2 : ∀ o, w1.frozen? ⟨w.heap.size + 1, o, none⟩ = false := fun o => (hfw1 _ _ (by simp <;> omega)).trans (by simp [go_sem])
  clear hcw1 hfw1
  go_wp2_with fail
  refine bodyPost_ret (v := .agg #[.string T.s, .int .i64 T.v, .int .i64 T.y, .slice A1 T.n k1]) (by simp [results, Try.results45, go_sem, r0, r1, r2, r3, o0, o1, o2, o3]) rfl ⟨_, rfl, ?_, ?_, ?_⟩
  · refine Own.mono (lo := w.heap.size + 1 + 1 + 1) (hi := w1.heap.size) ?_ (by omega) (by simp [World.setCell])
    repeat (refine Own.aside ?_ (by simp; try omega) _)
    simpa using ho1
  · simp [World.setCell]; omega
  · exact (by repeat (first | (with_reducible exact Below.refl _ _) | (with_reducible refine below_ov ?_ ?_) | (with_reducible refine Below.setCell ?_ ?_ _) | (with_reducible refine Below.alloc ?_ ?_ _) | (with_reducible refine Below.drew ?_) | (with_reducible refine below_drewN ?_ _) | (refine Below.trans ?_ (Below.mono ‹Below _ _ _› (by first | omega | (simp; done) | (simp; omega)))) | exact Below.refl _ _ | omega | (focus (simp; done)) | (focus (simp; omega))))
theorem toTeam_any (T : Tm) (lo hi : Nat) (vc : Value) (w : World) (hs : Sl w lo hi 2 vc T.n (iiC T.m T.b)) (hhi : hi ≤ w.heap.size) (hf : T.fits) :
    Calls Try.prog 45 #[.agg #[.string T.s, .int .i64 T.v, .int .i64 T.y, vc]] w fun e w' => ∃ u, e = .returned (.agg #[.string T.s, .int .i64 T.v, .int .i64 T.y, u]) ∧ Own w' w.heap.size w'.heap.size 47 2 u T.n T.n (iiC T.m T.b) ∧ Below w.heap.size w w' := by
  refine (toTeam_big T lo hi vc w hs hhi hf).mono ?_
  rintro e w' ⟨u, h1, h2, _, h3⟩
  exact ⟨u, h1, h2, h3⟩
set_option maxRecDepth 100000 in
set_option maxHeartbeats 1600000 in
/-- Copies of one team compare as equal. -/
theorem eqTeam_same (T : Tm) (lo hi lo' hi' : Nat) (vc uc : Value) (w : World) (hs : Sl w lo hi 2 vc T.n (iiC T.m T.b)) (hs' : Sl w lo' hi' 2 uc T.n (iiC T.m T.b)) (hhi : hi ≤ w.heap.size) (hhi' : hi' ≤ w.heap.size) (hf : T.fits) :
    Calls Try.prog 47 #[.agg #[.string T.s, .int .i64 T.v, .int .i64 T.y, vc], .agg #[.string T.s, .int .i64 T.v, .int .i64 T.y, uc]] w fun e w' => e = .returned (.bool true) ∧ Below w.heap.size w w' := by
  have HQ := hide (iiL_self T.m T.b T.n)
  have hn := hf.2
  go_enter Try.func47, Try.ntmps47
  go_wp2_with fail
  refine (eqCheckS_any T.m T.b T.m T.b T.n T.n lo hi lo' hi' _ _ _ (hs.below (B := w.heap.size) (by repeat (first | (with_reducible exact Below.refl _ _) | (with_reducible refine below_ov ?_ ?_) | (with_reducible refine Below.setCell ?_ ?_ _) | (with_reducible refine Below.alloc ?_ ?_ _) | (with_reducible refine Below.drew ?_) | (with_reducible refine below_drewN ?_ _) | (refine Below.trans ?_ (Below.mono ‹Below _ _ _› (by first | omega | (simp; done) | (simp; omega)))) | exact Below.refl _ _ | omega | (focus (simp; done)) | (focus (simp; omega)))) hhi) (hs'.below (B := w.heap.size) (by repeat (first | (with_reducible exact Below.refl _ _) | (with_reducible refine below_ov ?_ ?_) | (with_reducible refine Below.setCell ?_ ?_ _) | (with_reducible refine Below.alloc ?_ ?_ _) | (with_reducible refine Below.drew ?_) | (with_reducible refine below_drewN ?_ _) | (refine Below.trans ?_ (Below.mono ‹Below _ _ _› (by first | omega | (simp; done) | (simp; omega)))) | exact Below.refl _ _ | omega | (focus (simp; done)) | (focus (simp; omega)))) hhi') (by first | omega | (simp; done) | (simp; omega)) (by first | omega | (simp; done) | (simp; omega)) (by omega) (by omega)).mono ?_
  rintro e w1 ⟨rfl, hb1⟩
  rw [HQ.out]
  have hz1 := hb1.size
  go_wp2_with fail
  go_ret
  exact ⟨rfl, (by repeat (first | (with_reducible exact Below.refl _ _) | (with_reducible refine below_ov ?_ ?_) | (with_reducible refine Below.setCell ?_ ?_ _) | (with_reducible refine Below.alloc ?_ ?_ _) | (with_reducible refine Below.drew ?_) | (with_reducible refine below_drewN ?_ _) | (refine Below.trans ?_ (Below.mono ‹Below _ _ _› (by first | omega | (simp; done) | (simp; omega)))) | exact Below.refl _ _ | omega | (focus (simp; done)) | (focus (simp; omega))))⟩

end Go.Proofs.Ytpakjmiallhgnaa
