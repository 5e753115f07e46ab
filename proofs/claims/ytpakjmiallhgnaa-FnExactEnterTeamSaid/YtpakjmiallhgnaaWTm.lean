/-
  Walks: teams: validity, the rate.
-/
import Derived.Test.YtpakjmiallhgnaaPTeam
import Derived.Test.YtpakjmiallhgnaaWCyl3
import Derived.Test.YtpakjmiallhgnaaWCyl2
namespace Go.Proofs.Ytpakjmiallhgnaa
set_option linter.unusedVariables false
set_option linter.unusedSimpArgs false
open Go.RowKit

/-- A team that lies at an address; its checks, from lo on and below hi. -/
structure TmAt (w : World) (pb po : Nat) (T : Tm) (vc : Value) (lo hi : Nat) : Prop where
  lt : pb < w.heap.size
  c0 : w.cell? ⟨pb, po, none⟩ = some (.string T.s)
  c1 : w.cell? ⟨pb, po + 1, none⟩ = some (.int .i64 T.v)
  c2 : w.cell? ⟨pb, po + 2, none⟩ = some (.int .i64 T.y)
  c3 : w.cell? ⟨pb, po + 3, none⟩ = some vc
  sl : Sl w lo hi 2 vc T.n (iiC T.m T.b)
  hhi : hi ≤ w.heap.size
theorem TmAt.below {w w' : World} {pb po B : Nat} {T : Tm} {vc : Value} {lo hi : Nat} (h : TmAt w pb po T vc lo hi) (hb : Below B w w') (hB : w.heap.size ≤ B) : TmAt w' pb po T vc lo hi where
  lt := Nat.lt_of_lt_of_le h.lt hb.size
  c0 := (hb.cell (p := ⟨pb, po, none⟩) (Nat.lt_of_lt_of_le h.lt hB)).trans h.c0
  c1 := (hb.cell (p := ⟨pb, po + 1, none⟩) (Nat.lt_of_lt_of_le h.lt hB)).trans h.c1
  c2 := (hb.cell (p := ⟨pb, po + 2, none⟩) (Nat.lt_of_lt_of_le h.lt hB)).trans h.c2
  c3 := (hb.cell (p := ⟨pb, po + 3, none⟩) (Nat.lt_of_lt_of_le h.lt hB)).trans h.c3
  sl := h.sl.below hb (Nat.le_trans h.hhi hB)
  hhi := Nat.le_trans h.hhi hb.size
def Tm.fits (T : Tm) : Prop := T.s.size ≤ maxLen ∧ T.n ≤ 1048576

set_option maxRecDepth 100000 in
set_option maxHeartbeats 1600000 in
theorem isTeam_any (T : Tm) (pb po lo hi : Nat) (vc : Value) (w : World) (h : TmAt w pb po T vc lo hi) (hf : T.fits) :
    Calls Try.prog 76 #[.pointer (some ⟨pb, po, none⟩)] w fun e w' => e = .returned (.bool (tmB T)) ∧ Below w.heap.size w w' := by
  obtain ⟨hl, c0, c1, c2, c3, hs, hhi⟩ := h
  obtain ⟨f1, f2⟩ := hf
  cases hc1_0 : nameB T.s with
  | false =>
    go_enter Try.func76, Try.ntmps76
    go_wp2_with (first | (go_at_call 118; refine (isName_any _ _ f1).mono ?_; rintro e w1 ⟨rfl, hd1⟩; obtain ⟨n1, rfl⟩ := hd1) | (go_at_call 73; refine (inside_any _ _ _ _).mono ?_; rintro e w' ⟨rfl, rfl⟩))
    go_ret
    exact ⟨ret_bool (by simp [tmB, *]), (by repeat (first | (with_reducible exact Below.refl _ _) | (with_reducible refine below_ov ?_ ?_) | (with_reducible refine Below.setCell ?_ ?_ _) | (with_reducible refine Below.alloc ?_ ?_ _) | (with_reducible refine Below.drew ?_) | (with_reducible refine below_drewN ?_ _) | (refine Below.trans ?_ (Below.mono ‹Below _ _ _› (by first | omega | (simp; done) | (simp; omega)))) | exact Below.refl _ _ | omega | (focus (simp; done)) | (focus (simp; omega))))⟩
  | true =>
    cases hc1_1 : inB T.v 10 3000 with
    | false =>
      go_enter Try.func76, Try.ntmps76
      go_wp2_with (first | (go_at_call 118; refine (isName_any _ _ f1).mono ?_; rintro e w1 ⟨rfl, hd1⟩; obtain ⟨n1, rfl⟩ := hd1) | (go_at_call 73; refine (inside_any _ _ _ _).mono ?_; rintro e w' ⟨rfl, rfl⟩))
      go_ret
      exact ⟨ret_bool (by simp [tmB, *]), (by repeat (first | (with_reducible exact Below.refl _ _) | (with_reducible refine below_ov ?_ ?_) | (with_reducible refine Below.setCell ?_ ?_ _) | (with_reducible refine Below.alloc ?_ ?_ _) | (with_reducible refine Below.drew ?_) | (with_reducible refine below_drewN ?_ _) | (refine Below.trans ?_ (Below.mono ‹Below _ _ _› (by first | omega | (simp; done) | (simp; omega)))) | exact Below.refl _ _ | omega | (focus (simp; done)) | (focus (simp; omega))))⟩
    | true =>
      obtain ⟨hc1_1l, hc1_1r⟩ := inB_iff.1 hc1_1
      cases hc1_2 : inB T.y 0 300 with
      | false =>
        go_enter Try.func76, Try.ntmps76
        go_wp2_with (first | (go_at_call 118; refine (isName_any _ _ f1).mono ?_; rintro e w1 ⟨rfl, hd1⟩; obtain ⟨n1, rfl⟩ := hd1) | (go_at_call 73; refine (inside_any _ _ _ _).mono ?_; rintro e w' ⟨rfl, rfl⟩))
        go_ret
        exact ⟨ret_bool (by simp [tmB, *]), (by repeat (first | (with_reducible exact Below.refl _ _) | (with_reducible refine below_ov ?_ ?_) | (with_reducible refine Below.setCell ?_ ?_ _) | (with_reducible refine Below.alloc ?_ ?_ _) | (with_reducible refine Below.drew ?_) | (with_reducible refine below_drewN ?_ _) | (refine Below.trans ?_ (Below.mono ‹Below _ _ _› (by first | omega | (simp; done) | (simp; omega)))) | exact Below.refl _ _ | omega | (focus (simp; done)) | (focus (simp; omega))))⟩
      | true =>
        obtain ⟨hc1_2l, hc1_2r⟩ := inB_iff.1 hc1_2
        go_enter Try.func76, Try.ntmps76
        go_wp2_with (first | (go_at_call 118; refine (isName_any _ _ f1).mono ?_; rintro e w1 ⟨rfl, hd1⟩; obtain ⟨n1, rfl⟩ := hd1) | (go_at_call 73; refine (inside_any _ _ _ _).mono ?_; rintro e w' ⟨rfl, rfl⟩) | (go_at_call 66; refine (areChecks_any T.m T.b T.n lo hi _ _ (hs.below (B := w.heap.size) (by repeat (first | (with_reducible exact Below.refl _ _) | (with_reducible refine below_ov ?_ ?_) | (with_reducible refine Below.setCell ?_ ?_ _) | (with_reducible refine Below.alloc ?_ ?_ _) | (with_reducible refine Below.drew ?_) | (with_reducible refine below_drewN ?_ _) | (refine Below.trans ?_ (Below.mono ‹Below _ _ _› (by first | omega | (simp; done) | (simp; omega)))) | exact Below.refl _ _ | omega | (focus (simp; done)) | (focus (simp; omega)))) hhi) (by simp; omega) (by omega)).mono ?_; rintro e w2 ⟨rfl, hb2⟩; have hz2 := hb2.size; (try (simp at hz2)); obtain ⟨hcw2, hfw2⟩ := bcell hb2; (try (have hy2 : w.heap.size < w2.heap.size := by omega)); (try (have hyy2 : w.heap.size + 1 < w2.heap.size := by omega)); (try (have hyyy2 : w.heap.size + 1 + 1 < w2.heap.size := by omega))))
        go_ret
        exact ⟨ret_bool (by simp [tmB, *]), (by repeat (first | (with_reducible exact Below.refl _ _) | (with_reducible refine below_ov ?_ ?_) | (with_reducible refine Below.setCell ?_ ?_ _) | (with_reducible refine Below.alloc ?_ ?_ _) | (with_reducible refine Below.drew ?_) | (with_reducible refine below_drewN ?_ _) | (refine Below.trans ?_ (Below.mono ‹Below _ _ _› (by first | omega | (simp; done) | (simp; omega)))) | exact Below.refl _ _ | omega | (focus (simp; done)) | (focus (simp; omega))))⟩
set_option maxRecDepth 100000 in
set_option maxHeartbeats 1600000 in
theorem enOne_any (T : Tm) (lo hi : Nat) (vc : Value) (w : World) (hs : Sl w lo hi 2 vc T.n (iiC T.m T.b)) (hhi : hi ≤ w.heap.size) (hf : T.fits) :
    Calls Try.prog 78 #[.agg #[.string T.s, .int .i64 T.v, .int .i64 T.y, vc]] w fun e w' => e = .returned (.bool (tmB T)) ∧ Below w.heap.size w w' := by
  obtain ⟨f1, f2⟩ := hf
  cases hc2_0 : nameB T.s with
  | false =>
    go_enter Try.func78, Try.ntmps78
    go_wp2_with (first | (go_at_call 120; refine (apName_any _ _ f1).mono ?_; rintro e w1 ⟨rfl, hd1⟩; obtain ⟨n1, rfl⟩ := hd1) | (go_at_call 117; refine (l1In_any _ _ _ _).mono ?_; rintro e w' ⟨rfl, rfl⟩) | (go_at_call 83; refine (cyVolume_any _ _).mono ?_; rintro e w' ⟨rfl, rfl⟩))
    go_ret
    exact ⟨ret_bool (by simp [tmB, *]), (by repeat (first | (with_reducible exact Below.refl _ _) | (with_reducible refine below_ov ?_ ?_) | (with_reducible refine Below.setCell ?_ ?_ _) | (with_reducible refine Below.alloc ?_ ?_ _) | (with_reducible refine Below.drew ?_) | (with_reducible refine below_drewN ?_ _) | (refine Below.trans ?_ (Below.mono ‹Below _ _ _› (by first | omega | (simp; done) | (simp; omega)))) | exact Below.refl _ _ | omega | (focus (simp; done)) | (focus (simp; omega))))⟩
  | true =>
    cases hc2_1 : inB T.v 10 3000 with
    | false =>
      go_enter Try.func78, Try.ntmps78
      go_wp2_with (first | (go_at_call 120; refine (apName_any _ _ f1).mono ?_; rintro e w1 ⟨rfl, hd1⟩; obtain ⟨n1, rfl⟩ := hd1) | (go_at_call 117; refine (l1In_any _ _ _ _).mono ?_; rintro e w' ⟨rfl, rfl⟩) | (go_at_call 83; refine (cyVolume_any _ _).mono ?_; rintro e w' ⟨rfl, rfl⟩))
      go_ret
      exact ⟨ret_bool (by simp [tmB, *]), (by repeat (first | (with_reducible exact Below.refl _ _) | (with_reducible refine below_ov ?_ ?_) | (with_reducible refine Below.setCell ?_ ?_ _) | (with_reducible refine Below.alloc ?_ ?_ _) | (with_reducible refine Below.drew ?_) | (with_reducible refine below_drewN ?_ _) | (refine Below.trans ?_ (Below.mono ‹Below _ _ _› (by first | omega | (simp; done) | (simp; omega)))) | exact Below.refl _ _ | omega | (focus (simp; done)) | (focus (simp; omega))))⟩
    | true =>
      obtain ⟨hc2_1l, hc2_1r⟩ := inB_iff.1 hc2_1
      cases hc2_2 : inB T.y 0 300 with
      | false =>
        go_enter Try.func78, Try.ntmps78
        go_wp2_with (first | (go_at_call 120; refine (apName_any _ _ f1).mono ?_; rintro e w1 ⟨rfl, hd1⟩; obtain ⟨n1, rfl⟩ := hd1) | (go_at_call 117; refine (l1In_any _ _ _ _).mono ?_; rintro e w' ⟨rfl, rfl⟩) | (go_at_call 83; refine (cyVolume_any _ _).mono ?_; rintro e w' ⟨rfl, rfl⟩))
        go_ret
        exact ⟨ret_bool (by simp [tmB, *]), (by repeat (first | (with_reducible exact Below.refl _ _) | (with_reducible refine below_ov ?_ ?_) | (with_reducible refine Below.setCell ?_ ?_ _) | (with_reducible refine Below.alloc ?_ ?_ _) | (with_reducible refine Below.drew ?_) | (with_reducible refine below_drewN ?_ _) | (refine Below.trans ?_ (Below.mono ‹Below _ _ _› (by first | omega | (simp; done) | (simp; omega)))) | exact Below.refl _ _ | omega | (focus (simp; done)) | (focus (simp; omega))))⟩
      | true =>
        obtain ⟨hc2_2l, hc2_2r⟩ := inB_iff.1 hc2_2
        go_enter Try.func78, Try.ntmps78
        go_wp2_with (first | (go_at_call 120; refine (apName_any _ _ f1).mono ?_; rintro e w1 ⟨rfl, hd1⟩; obtain ⟨n1, rfl⟩ := hd1) | (go_at_call 117; refine (l1In_any _ _ _ _).mono ?_; rintro e w' ⟨rfl, rfl⟩) | (go_at_call 83; refine (cyVolume_any _ _).mono ?_; rintro e w' ⟨rfl, rfl⟩) | (go_at_call 84; refine (cyChecks_any T.m T.b T.n lo hi _ _ (hs.below (B := w.heap.size) (by repeat (first | (with_reducible exact Below.refl _ _) | (with_reducible refine below_ov ?_ ?_) | (with_reducible refine Below.setCell ?_ ?_ _) | (with_reducible refine Below.alloc ?_ ?_ _) | (with_reducible refine Below.drew ?_) | (with_reducible refine below_drewN ?_ _) | (refine Below.trans ?_ (Below.mono ‹Below _ _ _› (by first | omega | (simp; done) | (simp; omega)))) | exact Below.refl _ _ | omega | (focus (simp; done)) | (focus (simp; omega)))) hhi) (by simp; omega) (by omega)).mono ?_; rintro e w2 ⟨rfl, hb2⟩; have hz2 := hb2.size; (try (simp at hz2)); obtain ⟨hcw2, hfw2⟩ := bcell hb2; (try (have hy2 : w.heap.size < w2.heap.size := by omega)); (try (have hyy2 : w.heap.size + 1 < w2.heap.size := by omega)); (try (have hyyy2 : w.heap.size + 1 + 1 < w2.heap.size := by omega))))
        go_ret
        exact ⟨ret_bool (by simp [tmB, *]), (by repeat (first | (with_reducible exact Below.refl _ _) | (with_reducible refine below_ov ?_ ?_) | (with_reducible refine Below.setCell ?_ ?_ _) | (with_reducible refine Below.alloc ?_ ?_ _) | (with_reducible refine Below.drew ?_) | (with_reducible refine below_drewN ?_ _) | (refine Below.trans ?_ (Below.mono ‹Below _ _ _› (by first | omega | (simp; done) | (simp; omega)))) | exact Below.refl _ _ | omega | (focus (simp; done)) | (focus (simp; omega))))⟩
theorem TmAt.new (T : Tm) (lo hi : Nat) (vc : Value) (w : World) (t : TypeId) (hs : Sl w lo hi 2 vc T.n (iiC T.m T.b)) (hhi : hi ≤ w.heap.size) : TmAt (w.alloc (.cells #[.string T.s, .int .i64 T.v, .int .i64 T.y, vc] t)) w.heap.size 0 T vc lo hi where
  lt := by simp
  c0 := World.cell?_alloc_new _ _ _ _
  c1 := World.cell?_alloc_new _ _ _ _
  c2 := World.cell?_alloc_new _ _ _ _
  c3 := World.cell?_alloc_new _ _ _ _
  sl := hs.below ((Below.refl _ _).alloc (Nat.le_refl _) _) hhi
  hhi := by simp; omega
set_option maxRecDepth 100000 in
set_option maxHeartbeats 1600000 in
theorem IsTeam_impl (T : Tm) (lo hi : Nat) (vc : Value) (w : World) (hs : Sl w lo hi 2 vc T.n (iiC T.m T.b)) (hhi : hi ≤ w.heap.size) (hf : T.fits) :
    Calls Try.prog 27 #[.agg #[.string T.s, .int .i64 T.v, .int .i64 T.y, vc]] w fun e w' => e = .returned (.bool (tmB T)) ∧ Below w.heap.size w w' := by
  go_enter Try.func27, Try.ntmps27
  go_wp2_with fail
  refine (isTeam_any T _ _ lo hi vc _ (TmAt.new T lo hi vc w _ hs hhi) hf).mono ?_
  rintro e w1 ⟨rfl, hb1⟩
  have hz1 := hb1.size
  go_wp2_with fail
  go_ret
  exact ⟨rfl, (by repeat (first | (with_reducible exact Below.refl _ _) | (with_reducible refine below_ov ?_ ?_) | (with_reducible refine Below.setCell ?_ ?_ _) | (with_reducible refine Below.alloc ?_ ?_ _) | (with_reducible refine Below.drew ?_) | (with_reducible refine below_drewN ?_ _) | (refine Below.trans ?_ (Below.mono ‹Below _ _ _› (by first | omega | (simp; done) | (simp; omega)))) | exact Below.refl _ _ | omega | (focus (simp; done)) | (focus (simp; omega))))⟩

end Go.Proofs.Ytpakjmiallhgnaa
