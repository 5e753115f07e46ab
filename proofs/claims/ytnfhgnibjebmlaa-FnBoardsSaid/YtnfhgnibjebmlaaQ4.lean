/-
  Texts of this proof, one behind the other (part 4).
-/
import Derived.Test.YtnfhgnibjebmlaaQ3
import Derived.Deep.RegionWith
/-
  Walks: teams: validity, the rate.-/
namespace Go.Proofs.Ytnfhgnibjebmlaa
set_option linter.unusedVariables false
set_option linter.unusedSimpArgs false
open Go.RowKit

/-- A team that lies at an address; its checks, from lo on and below hi. -/
structure TmAt (w : World) (pb po : Nat) (T : Tm) (vc : Value) (lo hi : Nat) : Prop where
  lt : pb < w.heap.size
  c0 : w.cell? ⟨pb, po, none⟩ = some (.string T.s)
  c1 : w.cell? ⟨pb, po + 1, none⟩ = some (.int .i64 T.v)
  c2 : w.cell? ⟨pb, po + 2, none⟩ = some (.int .i64 T.y)
  c3 : w.cell? ⟨pb, po + 3, none⟩ = some vc
  sl : Sl w lo hi 2 vc T.n (iiC T.m T.b)
  hhi : hi ≤ w.heap.size
theorem TmAt.below {w w' : World} {pb po B : Nat} {T : Tm} {vc : Value} {lo hi : Nat} (h : TmAt w pb po T vc lo hi) (hb : Below B w w') (hB : w.heap.size ≤ B) : TmAt w' pb po T vc lo hi where
  lt := Nat.lt_of_lt_of_le h.lt hb.size
  c0 := (hb.cell (p := ⟨pb, po, none⟩) (Nat.lt_of_lt_of_le h.lt hB)).trans h.c0
  c1 := (hb.cell (p := ⟨pb, po + 1, none⟩) (Nat.lt_of_lt_of_le h.lt hB)).trans h.c1
  c2 := (hb.cell (p := ⟨pb, po + 2, none⟩) (Nat.lt_of_lt_of_le h.lt hB)).trans h.c2
  c3 := (hb.cell (p := ⟨pb, po + 3, none⟩) (Nat.lt_of_lt_of_le h.lt hB)).trans h.c3
  sl := h.sl.below hb (Nat.le_trans h.hhi hB)
  hhi := Nat.le_trans h.hhi hb.size
def Tm.fits (T : Tm) : Prop := T.s.size ≤ maxLen ∧ T.n ≤ 1048576

set_option maxRecDepth 100000 in
set_option maxHeartbeats 1600000 in
theorem isTeam_any (T : Tm) (pb po lo hi : Nat) (vc : Value) (w : World) (h : TmAt w pb po T vc lo hi) (hf : T.fits) :
    Calls Try.prog 33 #[.pointer (some ⟨pb, po, none⟩)] w fun e w' => e = .returned (.bool (tmB T)) ∧ Below w.heap.size w w' := by
  obtain ⟨hl, c0, c1, c2, c3, hs, hhi⟩ := h
  obtain ⟨f1, f2⟩ := hf
  cases hc1_0 : nameB T.s with
  | false =>
    go_enter Try.func33, Try.ntmps33
    go_wp2_with (first | (go_at_call 64; refine (isName_any _ _ f1).mono ?_; rintro e w1 ⟨rfl, hd1⟩; obtain ⟨n1, rfl⟩ := hd1) | (go_at_call 49; refine (inside_any _ _ _ _).mono ?_; rintro e w' ⟨rfl, rfl⟩))
    go_ret
    exact ⟨ret_bool (by simp [tmB, *]), (by repeat (first | (with_reducible exact Below.refl _ _) | (with_reducible refine below_ov ?_ ?_) | (with_reducible refine Below.setCell ?_ ?_ _) | (with_reducible refine Below.alloc ?_ ?_ _) | (with_reducible refine Below.drew ?_) | (with_reducible refine below_drewN ?_ _) | (refine Below.trans ?_ (Below.mono ‹Below _ _ _› (by first | omega | (simp; done) | (simp; omega)))) | exact Below.refl _ _ | omega | (focus (simp; done)) | (focus (simp; omega))))⟩
  | true =>
    cases hc1_1 : inB T.v 10 3000 with
    | false =>
      go_enter Try.func33, Try.ntmps33
      go_wp2_with (first | (go_at_call 64; refine (isName_any _ _ f1).mono ?_; rintro e w1 ⟨rfl, hd1⟩; obtain ⟨n1, rfl⟩ := hd1) | (go_at_call 49; refine (inside_any _ _ _ _).mono ?_; rintro e w' ⟨rfl, rfl⟩))
      go_ret
      exact ⟨ret_bool (by simp [tmB, *]), (by repeat (first | (with_reducible exact Below.refl _ _) | (with_reducible refine below_ov ?_ ?_) | (with_reducible refine Below.setCell ?_ ?_ _) | (with_reducible refine Below.alloc ?_ ?_ _) | (with_reducible refine Below.drew ?_) | (with_reducible refine below_drewN ?_ _) | (refine Below.trans ?_ (Below.mono ‹Below _ _ _› (by first | omega | (simp; done) | (simp; omega)))) | exact Below.refl _ _ | omega | (focus (simp; done)) | (focus (simp; omega))))⟩
    | true =>
      obtain ⟨hc1_1l, hc1_1r⟩ := inB_iff.1 hc1_1
      cases hc1_2 : inB T.y 0 300 with
      | false =>
        go_enter Try.func33, Try.ntmps33
        go_wp2_with (first | (go_at_call 64; refine (isName_any _ _ f1).mono ?_; rintro e w1 ⟨rfl, hd1⟩; obtain ⟨n1, rfl⟩ := hd1) | (go_at_call 49; refine (inside_any _ _ _ _).mono ?_; rintro e w' ⟨rfl, rfl⟩))
        go_ret
        exact ⟨ret_bool (by simp [tmB, *]), (by repeat (first | (with_reducible exact Below.refl _ _) | (with_reducible refine below_ov ?_ ?_) | (with_reducible refine Below.setCell ?_ ?_ _) | (with_reducible refine Below.alloc ?_ ?_ _) | (with_reducible refine Below.drew ?_) | (with_reducible refine below_drewN ?_ _) | (refine Below.trans ?_ (Below.mono ‹Below _ _ _› (by first | omega | (simp; done) | (simp; omega)))) | exact Below.refl _ _ | omega | (focus (simp; done)) | (focus (simp; omega))))⟩
      | true =>
        obtain ⟨hc1_2l, hc1_2r⟩ := inB_iff.1 hc1_2
        go_enter Try.func33, Try.ntmps33
        go_wp2_with (first | (go_at_call 64; refine (isName_any _ _ f1).mono ?_; rintro e w1 ⟨rfl, hd1⟩; obtain ⟨n1, rfl⟩ := hd1) | (go_at_call 49; refine (inside_any _ _ _ _).mono ?_; rintro e w' ⟨rfl, rfl⟩) | (go_at_call 61; refine (areChecks_any T.m T.b T.n lo hi _ _ (hs.below (B := w.heap.size) (by repeat (first | (with_reducible exact Below.refl _ _) | (with_reducible refine below_ov ?_ ?_) | (with_reducible refine Below.setCell ?_ ?_ _) | (with_reducible refine Below.alloc ?_ ?_ _) | (with_reducible refine Below.drew ?_) | (with_reducible refine below_drewN ?_ _) | (refine Below.trans ?_ (Below.mono ‹Below _ _ _› (by first | omega | (simp; done) | (simp; omega)))) | exact Below.refl _ _ | omega | (focus (simp; done)) | (focus (simp; omega)))) hhi) (by simp; omega) (by omega)).mono ?_; rintro e w2 ⟨rfl, hb2⟩; have hz2 := hb2.size; (try (simp at hz2)); obtain ⟨hcw2, hfw2⟩ := bcell hb2; (try (have hy2 : w.heap.size < w2.heap.size := by omega)); (try (have hyy2 : w.heap.size + 1 < w2.heap.size := by omega)); (try (have hyyy2 : w.heap.size + 1 + 1 < w2.heap.size := by omega))))
        go_ret
        exact ⟨ret_bool (by simp [tmB, *]), (by repeat (first | (with_reducible exact Below.refl _ _) | (with_reducible refine below_ov ?_ ?_) | (with_reducible refine Below.setCell ?_ ?_ _) | (with_reducible refine Below.alloc ?_ ?_ _) | (with_reducible refine Below.drew ?_) | (with_reducible refine below_drewN ?_ _) | (refine Below.trans ?_ (Below.mono ‹Below _ _ _› (by first | omega | (simp; done) | (simp; omega)))) | exact Below.refl _ _ | omega | (focus (simp; done)) | (focus (simp; omega))))⟩
set_option maxRecDepth 100000 in
set_option maxHeartbeats 1600000 in
theorem enOne_any (T : Tm) (lo hi : Nat) (vc : Value) (w : World) (hs : Sl w lo hi 2 vc T.n (iiC T.m T.b)) (hhi : hi ≤ w.heap.size) (hf : T.fits) :
    Calls Try.prog 41 #[.agg #[.string T.s, .int .i64 T.v, .int .i64 T.y, vc]] w fun e w' => e = .returned (.bool (tmB T)) ∧ Below w.heap.size w w' := by
  obtain ⟨f1, f2⟩ := hf
  cases hc2_0 : nameB T.s with
  | false =>
    go_enter Try.func41, Try.ntmps41
    go_wp2_with (first | (go_at_call 69; refine (apName_any _ _ f1).mono ?_; rintro e w1 ⟨rfl, hd1⟩; obtain ⟨n1, rfl⟩ := hd1) | (go_at_call 71; refine (l1In_any _ _ _ _).mono ?_; rintro e w' ⟨rfl, rfl⟩) | (go_at_call 70; refine (cyVolume_any _ _).mono ?_; rintro e w' ⟨rfl, rfl⟩))
    go_ret
    exact ⟨ret_bool (by simp [tmB, *]), (by repeat (first | (with_reducible exact Below.refl _ _) | (with_reducible refine below_ov ?_ ?_) | (with_reducible refine Below.setCell ?_ ?_ _) | (with_reducible refine Below.alloc ?_ ?_ _) | (with_reducible refine Below.drew ?_) | (with_reducible refine below_drewN ?_ _) | (refine Below.trans ?_ (Below.mono ‹Below _ _ _› (by first | omega | (simp; done) | (simp; omega)))) | exact Below.refl _ _ | omega | (focus (simp; done)) | (focus (simp; omega))))⟩
  | true =>
    cases hc2_1 : inB T.v 10 3000 with
    | false =>
      go_enter Try.func41, Try.ntmps41
      go_wp2_with (first | (go_at_call 69; refine (apName_any _ _ f1).mono ?_; rintro e w1 ⟨rfl, hd1⟩; obtain ⟨n1, rfl⟩ := hd1) | (go_at_call 71; refine (l1In_any _ _ _ _).mono ?_; rintro e w' ⟨rfl, rfl⟩) | (go_at_call 70; refine (cyVolume_any _ _).mono ?_; rintro e w' ⟨rfl, rfl⟩))
      go_ret
      exact ⟨ret_bool (by simp [tmB, *]), (by repeat (first | (with_reducible exact Below.refl _ _) | (with_reducible refine below_ov ?_ ?_) | (with_reducible refine Below.setCell ?_ ?_ _) | (with_reducible refine Below.alloc ?_ ?_ _) | (with_reducible refine Below.drew ?_) | (with_reducible refine below_drewN ?_ _) | (refine Below.trans ?_ (Below.mono ‹Below _ _ _› (by first | omega | (simp; done) | (simp; omega)))) | exact Below.refl _ _ | omega | (focus (simp; done)) | (focus (simp; omega))))⟩
    | true =>
      obtain ⟨hc2_1l, hc2_1r⟩ := inB_iff.1 hc2_1
      cases hc2_2 : inB T.y 0 300 with
      | false =>
        go_enter Try.func41, Try.ntmps41
        go_wp2_with (first | (go_at_call 69; refine (apName_any _ _ f1).mono ?_; rintro e w1 ⟨rfl, hd1⟩; obtain ⟨n1, rfl⟩ := hd1) | (go_at_call 71; refine (l1In_any _ _ _ _).mono ?_; rintro e w' ⟨rfl, rfl⟩) | (go_at_call 70; refine (cyVolume_any _ _).mono ?_; rintro e w' ⟨rfl, rfl⟩))
        go_ret
        exact ⟨ret_bool (by simp [tmB, *]), (by repeat (first | (with_reducible exact Below.refl _ _) | (with_reducible refine below_ov ?_ ?_) | (with_reducible refine Below.setCell ?_ ?_ _) | (with_reducible refine Below.alloc ?_ ?_ _) | (with_reducible refine Below.drew ?_) | (with_reducible refine below_drewN ?_ _) | (refine Below.trans ?_ (Below.mono ‹Below _ _ _› (by first | omega | (simp; done) | (simp; omega)))) | exact Below.refl _ _ | omega | (focus (simp; done)) | (focus (simp; omega))))⟩
      | true =>
        obtain ⟨hc2_2l, hc2_2r⟩ := inB_iff.1 hc2_2
        go_enter Try.func41, Try.ntmps41
        go_wp2_with (first | (go_at_call 69; refine (apName_any _ _ f1).mono ?_; rintro e w1 ⟨rfl, hd1⟩; obtain ⟨n1, rfl⟩ := hd1) | (go_at_call 71; refine (l1In_any _ _ _ _).mono ?_; rintro e w' ⟨rfl, rfl⟩) | (go_at_call 70; refine (cyVolume_any _ _).mono ?_; rintro e w' ⟨rfl, rfl⟩) | (go_at_call 72; refine (cyChecks_any T.m T.b T.n lo hi _ _ (hs.below (B := w.heap.size) (by repeat (first | (with_reducible exact Below.refl _ _) | (with_reducible refine below_ov ?_ ?_) | (with_reducible refine Below.setCell ?_ ?_ _) | (with_reducible refine Below.alloc ?_ ?_ _) | (with_reducible refine Below.drew ?_) | (with_reducible refine below_drewN ?_ _) | (refine Below.trans ?_ (Below.mono ‹Below _ _ _› (by first | omega | (simp; done) | (simp; omega)))) | exact Below.refl _ _ | omega | (focus (simp; done)) | (focus (simp; omega)))) hhi) (by simp; omega) (by omega)).mono ?_; rintro e w2 ⟨rfl, hb2⟩; have hz2 := hb2.size; (try (simp at hz2)); obtain ⟨hcw2, hfw2⟩ := bcell hb2; (try (have hy2 : w.heap.size < w2.heap.size := by omega)); (try (have hyy2 : w.heap.size + 1 < w2.heap.size := by omega)); (try (have hyyy2 : w.heap.size + 1 + 1 < w2.heap.size := by omega))))
        go_ret
        exact ⟨ret_bool (by simp [tmB, *]), (by repeat (first | (with_reducible exact Below.refl _ _) | (with_reducible refine below_ov ?_ ?_) | (with_reducible refine Below.setCell ?_ ?_ _) | (with_reducible refine Below.alloc ?_ ?_ _) | (with_reducible refine Below.drew ?_) | (with_reducible refine below_drewN ?_ _) | (refine Below.trans ?_ (Below.mono ‹Below _ _ _› (by first | omega | (simp; done) | (simp; omega)))) | exact Below.refl _ _ | omega | (focus (simp; done)) | (focus (simp; omega))))⟩
theorem TmAt.new (T : Tm) (lo hi : Nat) (vc : Value) (w : World) (t : TypeId) (hs : Sl w lo hi 2 vc T.n (iiC T.m T.b)) (hhi : hi ≤ w.heap.size) : TmAt (w.alloc (.cells #[.string T.s, .int .i64 T.v, .int .i64 T.y, vc] t)) w.heap.size 0 T vc lo hi where
  lt := by simp
  c0 := World.cell?_alloc_new _ _ _ _
  c1 := World.cell?_alloc_new _ _ _ _
  c2 := World.cell?_alloc_new _ _ _ _
  c3 := World.cell?_alloc_new _ _ _ _
  sl := hs.below ((Below.refl _ _).alloc (Nat.le_refl _) _) hhi
  hhi := by simp; omega

end Go.Proofs.Ytnfhgnibjebmlaa

/-
  Walks: teams: the rate, the last check, the pressure, the minute of turning.-/
namespace Go.Proofs.Ytnfhgnibjebmlaa
set_option linter.unusedVariables false
set_option linter.unusedSimpArgs false
open Go.RowKit

theorem wrN_bd {T : Tm} (h : tmB T = true) : 0 ≤ wrN T.v T.m T.b T.n ∧ wrN T.v T.m T.b T.n ≤ 200 := by
  unfold wrN
  split
  · rename_i h1
    simp only [wrOk, Bool.and_eq_true, inB_iff] at h1
    omega
  · omega
set_option maxRecDepth 100000 in
set_option maxHeartbeats 1600000 in
theorem rate_any (T : Tm) (pb po lo hi : Nat) (vc : Value) (w : World) (h : TmAt w pb po T vc lo hi) (hB : tmB T = true) :
    Calls Try.prog 78 #[.pointer (some ⟨pb, po, none⟩)] w fun e w' => e = .returned (.int .i64 (tmR T)) ∧ Below w.heap.size w w' := by
  obtain ⟨hl, c0, c1, c2, c3, hs, hhi⟩ := h
  have HB := hide hB
  have HI := hide (tmR_imp hB)
  obtain ⟨_, f2, _, f4, _⟩ := tm_facts hB
  have f5 := wrN_bd hB
  obtain ⟨A, cap, rfl, hcap, hA⟩ := hs.open_
  clear hB
  cases hok : wrOk T.v T.m T.b T.n with
  | false =>
    cases hn : decide ((T.n : Int) > 1) with
    | true =>
      have HE : Hid (tmR T = 200) := by
        show tmR T = 200
        rw [← HI.out, if_pos ⟨hok, by have := of_decide_eq_true hn; omega⟩]
      go_enter Try.func78, Try.ntmps78
      go_wp2_with fail
      (refine wp_region_below_lit (by kernel_rfl) (by kernel_rfl) ?_; (repeat (first | go_big_quiet_step ((go_at_call 88; exact quiet_ov (worstRate_any T.v T.m T.b T.n lo hi _ _ (hs.below (B := w.heap.size) (by repeat (first | (with_reducible exact Below.refl _ _) | (with_reducible refine below_ov ?_ ?_) | (with_reducible refine Below.setCell ?_ ?_ _) | (with_reducible refine Below.alloc ?_ ?_ _) | (with_reducible refine Below.drew ?_) | (with_reducible refine below_drewN ?_ _) | (refine Below.trans ?_ (Below.mono ‹Below _ _ _› (by first | omega | (simp; done) | (simp; omega)))) | exact Below.refl _ _ | omega | (focus (simp; done)) | (focus (simp; omega)))) hhi) (by simp [ov]; omega) (by omega) (by omega) (tm_chk HB.out)))) | quiet_step ((go_at_call 88; exact quiet_ov (worstRate_any T.v T.m T.b T.n lo hi _ _ (hs.below (B := w.heap.size) (by repeat (first | (with_reducible exact Below.refl _ _) | (with_reducible refine below_ov ?_ ?_) | (with_reducible refine Below.setCell ?_ ?_ _) | (with_reducible refine Below.alloc ?_ ?_ _) | (with_reducible refine Below.drew ?_) | (with_reducible refine below_drewN ?_ _) | (refine Below.trans ?_ (Below.mono ‹Below _ _ _› (by first | omega | (simp; done) | (simp; omega)))) | exact Below.refl _ _ | omega | (focus (simp; done)) | (focus (simp; omega)))) hhi) (by simp [ov]; omega) (by omega) (by omega) (tm_chk HB.out)))))); refine wpQuiet_nil ?_; intro w1 hb1; have hz1 := hb1.size; (try (simp at hz1)); obtain ⟨hcw1, hfw1⟩ := bcell hb1; (try (have hy1 : w.heap.size < w1.heap.size := by omega)); (try (have hyy1 : w.heap.size + 1 < w1.heap.size := by omega)))
      go_wp2_with fail
      go_ret
      exact ⟨ret_int HE.out.symm, (by repeat (first | (with_reducible exact Below.refl _ _) | (with_reducible refine below_ov ?_ ?_) | (with_reducible refine Below.setCell ?_ ?_ _) | (with_reducible refine Below.alloc ?_ ?_ _) | (with_reducible refine Below.drew ?_) | (with_reducible refine below_drewN ?_ _) | (refine Below.trans ?_ (Below.mono ‹Below _ _ _› (by first | omega | (simp; done) | (simp; omega)))) | exact Below.refl _ _ | omega | (focus (simp; done)) | (focus (simp; omega))))⟩
    | false =>
      have HE : Hid (tmR T = max 60 (wrN T.v T.m T.b T.n)) := by
        show tmR T = _
        rw [← HI.out, if_neg (by have := of_decide_eq_false hn; omega)]
      go_enter Try.func78, Try.ntmps78
      go_wp2_with fail
      (refine wp_region_below_lit (by kernel_rfl) (by kernel_rfl) ?_; (repeat (first | go_big_quiet_step ((go_at_call 88; exact quiet_ov (worstRate_any T.v T.m T.b T.n lo hi _ _ (hs.below (B := w.heap.size) (by repeat (first | (with_reducible exact Below.refl _ _) | (with_reducible refine below_ov ?_ ?_) | (with_reducible refine Below.setCell ?_ ?_ _) | (with_reducible refine Below.alloc ?_ ?_ _) | (with_reducible refine Below.drew ?_) | (with_reducible refine below_drewN ?_ _) | (refine Below.trans ?_ (Below.mono ‹Below _ _ _› (by first | omega | (simp; done) | (simp; omega)))) | exact Below.refl _ _ | omega | (focus (simp; done)) | (focus (simp; omega)))) hhi) (by simp [ov]; omega) (by omega) (by omega) (tm_chk HB.out)))) | quiet_step ((go_at_call 88; exact quiet_ov (worstRate_any T.v T.m T.b T.n lo hi _ _ (hs.below (B := w.heap.size) (by repeat (first | (with_reducible exact Below.refl _ _) | (with_reducible refine below_ov ?_ ?_) | (with_reducible refine Below.setCell ?_ ?_ _) | (with_reducible refine Below.alloc ?_ ?_ _) | (with_reducible refine Below.drew ?_) | (with_reducible refine below_drewN ?_ _) | (refine Below.trans ?_ (Below.mono ‹Below _ _ _› (by first | omega | (simp; done) | (simp; omega)))) | exact Below.refl _ _ | omega | (focus (simp; done)) | (focus (simp; omega)))) hhi) (by simp [ov]; omega) (by omega) (by omega) (tm_chk HB.out)))))); refine wpQuiet_nil ?_; intro w1 hb1; have hz1 := hb1.size; (try (simp at hz1)); obtain ⟨hcw1, hfw1⟩ := bcell hb1; (try (have hy1 : w.heap.size < w1.heap.size := by omega)); (try (have hyy1 : w.heap.size + 1 < w1.heap.size := by omega)))
      go_wp2_with fail
      all_goals go_ret
      all_goals exact ⟨ret_int (by rw [HE.out]; omega), (by repeat (first | (with_reducible exact Below.refl _ _) | (with_reducible refine below_ov ?_ ?_) | (with_reducible refine Below.setCell ?_ ?_ _) | (with_reducible refine Below.alloc ?_ ?_ _) | (with_reducible refine Below.drew ?_) | (with_reducible refine below_drewN ?_ _) | (refine Below.trans ?_ (Below.mono ‹Below _ _ _› (by first | omega | (simp; done) | (simp; omega)))) | exact Below.refl _ _ | omega | (focus (simp; done)) | (focus (simp; omega))))⟩
  | true =>
    have HE : Hid (tmR T = max 60 (wrN T.v T.m T.b T.n)) := by
      show tmR T = _
      rw [← HI.out, if_neg (by simp [hok])]
    go_enter Try.func78, Try.ntmps78
    go_wp2_with fail
    (refine wp_region_below_lit (by kernel_rfl) (by kernel_rfl) ?_; (repeat (first | go_big_quiet_step ((go_at_call 88; exact quiet_ov (worstRate_any T.v T.m T.b T.n lo hi _ _ (hs.below (B := w.heap.size) (by repeat (first | (with_reducible exact Below.refl _ _) | (with_reducible refine below_ov ?_ ?_) | (with_reducible refine Below.setCell ?_ ?_ _) | (with_reducible refine Below.alloc ?_ ?_ _) | (with_reducible refine Below.drew ?_) | (with_reducible refine below_drewN ?_ _) | (refine Below.trans ?_ (Below.mono ‹Below _ _ _› (by first | omega | (simp; done) | (simp; omega)))) | exact Below.refl _ _ | omega | (focus (simp; done)) | (focus (simp; omega)))) hhi) (by simp [ov]; omega) (by omega) (by omega) (tm_chk HB.out)))) | quiet_step ((go_at_call 88; exact quiet_ov (worstRate_any T.v T.m T.b T.n lo hi _ _ (hs.below (B := w.heap.size) (by repeat (first | (with_reducible exact Below.refl _ _) | (with_reducible refine below_ov ?_ ?_) | (with_reducible refine Below.setCell ?_ ?_ _) | (with_reducible refine Below.alloc ?_ ?_ _) | (with_reducible refine Below.drew ?_) | (with_reducible refine below_drewN ?_ _) | (refine Below.trans ?_ (Below.mono ‹Below _ _ _› (by first | omega | (simp; done) | (simp; omega)))) | exact Below.refl _ _ | omega | (focus (simp; done)) | (focus (simp; omega)))) hhi) (by simp [ov]; omega) (by omega) (by omega) (tm_chk HB.out)))))); refine wpQuiet_nil ?_; intro w1 hb1; have hz1 := hb1.size; (try (simp at hz1)); obtain ⟨hcw1, hfw1⟩ := bcell hb1; (try (have hy1 : w.heap.size < w1.heap.size := by omega)); (try (have hyy1 : w.heap.size + 1 < w1.heap.size := by omega)))
    go_wp2_with fail
    all_goals go_ret
    all_goals exact ⟨ret_int (by rw [HE.out]; omega), (by repeat (first | (with_reducible exact Below.refl _ _) | (with_reducible refine below_ov ?_ ?_) | (with_reducible refine Below.setCell ?_ ?_ _) | (with_reducible refine Below.alloc ?_ ?_ _) | (with_reducible refine Below.drew ?_) | (with_reducible refine below_drewN ?_ _) | (refine Below.trans ?_ (Below.mono ‹Below _ _ _› (by first | omega | (simp; done) | (simp; omega)))) | exact Below.refl _ _ | omega | (focus (simp; done)) | (focus (simp; omega))))⟩
set_option maxRecDepth 100000 in
set_option maxHeartbeats 1600000 in
theorem enRate_any (T : Tm) (lo hi : Nat) (vc : Value) (w : World) (hs : Sl w lo hi 2 vc T.n (iiC T.m T.b)) (hhi : hi ≤ w.heap.size) (hB : tmB T = true) :
    Calls Try.prog 80 #[.agg #[.string T.s, .int .i64 T.v, .int .i64 T.y, vc]] w fun e w' => e = .returned (.int .i64 (tmR T)) ∧ Below w.heap.size w w' := by
  have HB := hide hB
  obtain ⟨_, f2, _, f4, _⟩ := tm_facts hB
  obtain ⟨A, cap, rfl, hcap, hA⟩ := hs.open_
  clear hB
  cases hn : ((T.n : Int) == 1) with
  | true =>
    have HE : Hid (tmR T = 60) := by
      show tmR T = 60
      rw [tmR, if_pos (by simp at hn; omega)]
    go_enter Try.func80, Try.ntmps80
    go_wp2_with fail
    go_ret
    exact ⟨ret_int HE.out.symm, (by repeat (first | (with_reducible exact Below.refl _ _) | (with_reducible refine below_ov ?_ ?_) | (with_reducible refine Below.setCell ?_ ?_ _) | (with_reducible refine Below.alloc ?_ ?_ _) | (with_reducible refine Below.drew ?_) | (with_reducible refine below_drewN ?_ _) | (refine Below.trans ?_ (Below.mono ‹Below _ _ _› (by first | omega | (simp; done) | (simp; omega)))) | exact Below.refl _ _ | omega | (focus (simp; done)) | (focus (simp; omega))))⟩
  | false =>
    have HE : Hid (tmR T = min 200 (max 60 (wrF T.v T.m T.b T.n))) := by
      show tmR T = _
      rw [tmR, if_neg (by simp at hn; omega)]
    go_enter Try.func80, Try.ntmps80
    go_wp2_with (first | (go_at_call 91; refine (cyWorst_any T.v T.m T.b T.n lo hi _ _ (hs.below (B := w.heap.size) (by repeat (first | (with_reducible exact Below.refl _ _) | (with_reducible refine below_ov ?_ ?_) | (with_reducible refine Below.setCell ?_ ?_ _) | (with_reducible refine Below.alloc ?_ ?_ _) | (with_reducible refine Below.drew ?_) | (with_reducible refine below_drewN ?_ _) | (refine Below.trans ?_ (Below.mono ‹Below _ _ _› (by first | omega | (simp; done) | (simp; omega)))) | exact Below.refl _ _ | omega | (focus (simp; done)) | (focus (simp; omega)))) hhi) (by first | omega | (simp; done) | (simp; omega)) (by omega) (by omega) (tm_chk HB.out)).mono ?_; rintro e w1 ⟨rfl, hb1⟩; have hz1 := hb1.size; (try (simp at hz1)); obtain ⟨hcw1, hfw1⟩ := bcell hb1; (try (have hy1 : w.heap.size < w1.heap.size := by omega)); (try (have hyy1 : w.heap.size + 1 < w1.heap.size := by omega)); (try (have hyyy1 : w.heap.size + 1 + 1 < w1.heap.size := by omega))) | (go_at_call 82; refine (l1Most_any _ _ _).mono ?_; rintro e w' ⟨rfl, rfl⟩) | (go_at_call 90; refine (l1Least_any _ _ _).mono ?_; rintro e w' ⟨rfl, rfl⟩))
    go_ret
    exact ⟨ret_int HE.out.symm, (by repeat (first | (with_reducible exact Below.refl _ _) | (with_reducible refine below_ov ?_ ?_) | (with_reducible refine Below.setCell ?_ ?_ _) | (with_reducible refine Below.alloc ?_ ?_ _) | (with_reducible refine Below.drew ?_) | (with_reducible refine below_drewN ?_ _) | (refine Below.trans ?_ (Below.mono ‹Below _ _ _› (by first | omega | (simp; done) | (simp; omega)))) | exact Below.refl _ _ | omega | (focus (simp; done)) | (focus (simp; omega))))⟩

end Go.Proofs.Ytnfhgnibjebmlaa

/-
  Walks: teams: the last check, the pressure at a minute, the minute of turning, the state.-/
namespace Go.Proofs.Ytnfhgnibjebmlaa
set_option linter.unusedVariables false
set_option linter.unusedSimpArgs false
open Go.RowKit

set_option maxRecDepth 100000 in
set_option maxHeartbeats 1600000 in
theorem last_any (T : Tm) (pb po lo hi : Nat) (vc : Value) (w : World) (h : TmAt w pb po T vc lo hi) (hB : tmB T = true) :
    Calls Try.prog 55 #[.pointer (some ⟨pb, po, none⟩)] w fun e w' => e = .returned (.agg #[.int .i64 T.lm, .int .i64 T.lb]) ∧ Below w.heap.size w w' := by
  obtain ⟨hl, c0, c1, c2, c3, hs, hhi⟩ := h
  obtain ⟨_, _, _, f4, _⟩ := tm_facts hB
  clear hB
  obtain ⟨A, cap, rfl, hcap, hA⟩ := hs.open_
  obtain ⟨blk, off, rfl, h1, h2, h3⟩ := hA (by omega)
  have d0 : w.cell? ⟨blk, off + (T.n - 1) * 2, none⟩ = some (.int .i64 T.lm) := h3 (T.n - 1) 0 (by omega) (by omega)
  have d1 : w.cell? ⟨blk, off + (T.n - 1) * 2 + 1, none⟩ = some (.int .i64 T.lb) := h3 (T.n - 1) 1 (by omega) (by omega)
  have l1 : blk < w.heap.size := by omega
  clear h3 hA
  go_enter Try.func55, Try.ntmps55
  go_wp2_with fail
  go_region
  all_goals go_wp2_with fail
  all_goals exact bodyPost_ret (v := .agg #[.int .i64 T.lm, .int .i64 T.lb]) (by simp [results, Try.results55, go_sem]) rfl ⟨rfl, (by repeat (first | (with_reducible exact Below.refl _ _) | (with_reducible refine below_ov ?_ ?_) | (with_reducible refine Below.setCell ?_ ?_ _) | (with_reducible refine Below.alloc ?_ ?_ _) | (with_reducible refine Below.drew ?_) | (with_reducible refine below_drewN ?_ _) | (refine Below.trans ?_ (Below.mono ‹Below _ _ _› (by first | omega | (simp; done) | (simp; omega)))) | exact Below.refl _ _ | omega | (focus (simp; done)) | (focus (simp; omega))))⟩
set_option maxRecDepth 100000 in
set_option maxHeartbeats 1600000 in
theorem enLast_any (T : Tm) (lo hi : Nat) (vc : Value) (w : World) (hs : Sl w lo hi 2 vc T.n (iiC T.m T.b)) (hhi : hi ≤ w.heap.size) (hB : tmB T = true) :
    Calls Try.prog 57 #[.agg #[.string T.s, .int .i64 T.v, .int .i64 T.y, vc]] w fun e w' => e = .returned (.tuple #[.agg #[.int .i64 T.v, .int .i64 T.lb], .int .i64 T.lm]) ∧ Below w.heap.size w w' := by
  obtain ⟨_, _, _, f4, _⟩ := tm_facts hB
  clear hB
  obtain ⟨A, cap, rfl, hcap, hA⟩ := hs.open_
  obtain ⟨blk, off, rfl, h1, h2, h3⟩ := hA (by omega)
  have d0 : w.cell? ⟨blk, off + (T.n - 1) * 2, none⟩ = some (.int .i64 T.lm) := h3 (T.n - 1) 0 (by omega) (by omega)
  have d1 : w.cell? ⟨blk, off + (T.n - 1) * 2 + 1, none⟩ = some (.int .i64 T.lb) := h3 (T.n - 1) 1 (by omega) (by omega)
  have l1 : blk < w.heap.size := by omega
  clear h3 hA
  go_enter Try.func57, Try.ntmps57
  go_wp2_with fail
  go_region
  all_goals go_wp2_with fail
  all_goals exact bodyPost_ret (v := .tuple #[.agg #[.int .i64 T.v, .int .i64 T.lb], .int .i64 T.lm]) (by simp [results, Try.results57, go_sem]) rfl ⟨rfl, (by repeat (first | (with_reducible exact Below.refl _ _) | (with_reducible refine below_ov ?_ ?_) | (with_reducible refine Below.setCell ?_ ?_ _) | (with_reducible refine Below.alloc ?_ ?_ _) | (with_reducible refine Below.drew ?_) | (with_reducible refine below_drewN ?_ _) | (refine Below.trans ?_ (Below.mono ‹Below _ _ _› (by first | omega | (simp; done) | (simp; omega)))) | exact Below.refl _ _ | omega | (focus (simp; done)) | (focus (simp; omega))))⟩
set_option maxRecDepth 100000 in
set_option maxHeartbeats 1600000 in
theorem cylinder_any (T : Tm) (pb po lo hi : Nat) (vc : Value) (w : World) (h : TmAt w pb po T vc lo hi) (hB : tmB T = true) :
    Calls Try.prog 77 #[.pointer (some ⟨pb, po, none⟩)] w fun e w' => e = .returned (.agg #[.int .i64 T.v, .int .i64 T.lb]) ∧ Below w.heap.size w w' := by
  have H := hide h
  have HB := hide hB
  obtain ⟨hl, c0, c1, c2, c3, hs, hhi⟩ := h
  clear hB hs c3 c2 c0
  have hfl : ∀ (x y : Value) (w : World), (Instr.field 56 (.agg #[x, y]) 1).run Try.prog w = .ok y w := fun _ _ _ => by kernel_rfl
  go_enter Try.func77, Try.ntmps77
  go_wp2_with fail
  go_region_with (go_at_call 55; refine (last_any T pb po lo hi vc _ (H.out.below (B := w.heap.size) (by repeat (first | (with_reducible exact Below.refl _ _) | (with_reducible refine below_ov ?_ ?_) | (with_reducible refine Below.setCell ?_ ?_ _) | (with_reducible refine Below.alloc ?_ ?_ _) | (with_reducible refine Below.drew ?_) | (with_reducible refine below_drewN ?_ _) | (refine Below.trans ?_ (Below.mono ‹Below _ _ _› (by first | omega | (simp; done) | (simp; omega)))) | exact Below.refl _ _ | omega | (focus (simp; done)) | (focus (simp; omega)))) (Nat.le_refl _)) HB.out).mono ?_; rintro e w2 ⟨rfl, hb2⟩; have hz2 := hb2.size; simp at hz2; have x0 := (hb2.cell (p := ⟨w.heap.size, 0, none⟩) (by simp)).trans (by simp [go_sem]; rfl); have x1 := (hb2.cell (p := ⟨w.heap.size, 1, none⟩) (by simp)).trans (by simp [go_sem]; rfl); have xf : ∀ o, w2.frozen? ⟨w.heap.size, o, none⟩ = false := fun o => (hb2.frozen (p := ⟨w.heap.size, o, none⟩) (by simp)).trans (by simp [go_sem]); have xc := (hb2.cell (p := ⟨pb, po + 1, none⟩) (by simp; omega)).trans (by simp [go_sem, hl, c1]; rfl))
  all_goals go_wp2_with fail
  all_goals exact bodyPost_ret (v := .agg #[.int .i64 T.v, .int .i64 T.lb]) (by simp [results, Try.results77, go_sem, *]) rfl ⟨rfl, (by repeat (first | (with_reducible exact Below.refl _ _) | (with_reducible refine below_ov ?_ ?_) | (with_reducible refine Below.setCell ?_ ?_ _) | (with_reducible refine Below.alloc ?_ ?_ _) | (with_reducible refine Below.drew ?_) | (with_reducible refine below_drewN ?_ _) | (refine Below.trans ?_ (Below.mono ‹Below _ _ _› (by first | omega | (simp; done) | (simp; omega)))) | exact Below.refl _ _ | omega | (focus (simp; done)) | (focus (simp; omega))))⟩
set_option maxRecDepth 100000 in
set_option maxHeartbeats 1600000 in
theorem turn_any (T : Tm) (pb po lo hi : Nat) (vc : Value) (w : World) (h : TmAt w pb po T vc lo hi) (hB : tmB T = true) :
    Calls Try.prog 54 #[.pointer (some ⟨pb, po, none⟩)] w fun e w' => e = .returned (.tuple #[.int .i64 (tmTN T), .bool (tmTOk T)]) ∧ Below w.heap.size w w' := by
  have H := hide h
  have HB := hide hB
  obtain ⟨hl, c0, c1, c2, c3, hs, hhi⟩ := h
  obtain ⟨_, f2, f3, f4, f5, f6⟩ := tm_facts hB
  have f7 := tmT_bd T
  have f8 := tmR_bd (T := T)
  clear hB hs c3 c1 c0
  have hfl0 : ∀ (x y : Value) (w : World), (Instr.field 56 (.agg #[x, y]) 0).run Try.prog w = .ok x w := fun _ _ _ => by kernel_rfl
  go_enter Try.func54, Try.ntmps54
  go_wp2_with fail
  cases ht : latOk T.v T.lb (tmR T) T.y 50 with
  | false =>
    have HE : Hid (tmTOk T = false ∧ tmTN T = 0) := by
      have h1 : ¬ 0 ≤ tmT T := of_decide_eq_false ht
      exact ⟨decide_eq_false h1, by rw [tmTN, if_pos (by omega)]⟩
    (refine wp_region_below_lit (by kernel_rfl) (by kernel_rfl) ?_; (repeat (first | go_big_quiet_step ((first | (go_at_call 77; exact quiet_ov (cylinder_any T pb po lo hi vc _ (H.out.below (B := w.heap.size) (by repeat (first | (with_reducible exact Below.refl _ _) | (with_reducible refine below_ov ?_ ?_) | (with_reducible refine Below.setCell ?_ ?_ _) | (with_reducible refine Below.alloc ?_ ?_ _) | (with_reducible refine Below.drew ?_) | (with_reducible refine below_drewN ?_ _) | (refine Below.trans ?_ (Below.mono ‹Below _ _ _› (by first | omega | (simp; done) | (simp; omega)))) | exact Below.refl _ _ | omega | (focus (simp; done)) | (focus (simp; omega)))) (Nat.le_refl _)) HB.out)) | (go_at_call 78; exact quiet_ov (rate_any T pb po lo hi vc _ (H.out.below (B := w.heap.size) (by repeat (first | (with_reducible exact Below.refl _ _) | (with_reducible refine below_ov ?_ ?_) | (with_reducible refine Below.setCell ?_ ?_ _) | (with_reducible refine Below.alloc ?_ ?_ _) | (with_reducible refine Below.drew ?_) | (with_reducible refine below_drewN ?_ _) | (refine Below.trans ?_ (Below.mono ‹Below _ _ _› (by first | omega | (simp; done) | (simp; omega)))) | exact Below.refl _ _ | omega | (focus (simp; done)) | (focus (simp; omega)))) (Nat.le_refl _)) HB.out)) | (go_at_call 76; exact quiet_ov (latestTurn_any T.v T.lb (tmR T) T.y 50 _ (by omega) (by omega) (by omega) (by omega) (by omega) (by omega) (by omega) (by omega))))) | quiet_step ((first | (go_at_call 77; exact quiet_ov (cylinder_any T pb po lo hi vc _ (H.out.below (B := w.heap.size) (by repeat (first | (with_reducible exact Below.refl _ _) | (with_reducible refine below_ov ?_ ?_) | (with_reducible refine Below.setCell ?_ ?_ _) | (with_reducible refine Below.alloc ?_ ?_ _) | (with_reducible refine Below.drew ?_) | (with_reducible refine below_drewN ?_ _) | (refine Below.trans ?_ (Below.mono ‹Below _ _ _› (by first | omega | (simp; done) | (simp; omega)))) | exact Below.refl _ _ | omega | (focus (simp; done)) | (focus (simp; omega)))) (Nat.le_refl _)) HB.out)) | (go_at_call 78; exact quiet_ov (rate_any T pb po lo hi vc _ (H.out.below (B := w.heap.size) (by repeat (first | (with_reducible exact Below.refl _ _) | (with_reducible refine below_ov ?_ ?_) | (with_reducible refine Below.setCell ?_ ?_ _) | (with_reducible refine Below.alloc ?_ ?_ _) | (with_reducible refine Below.drew ?_) | (with_reducible refine below_drewN ?_ _) | (refine Below.trans ?_ (Below.mono ‹Below _ _ _› (by first | omega | (simp; done) | (simp; omega)))) | exact Below.refl _ _ | omega | (focus (simp; done)) | (focus (simp; omega)))) (Nat.le_refl _)) HB.out)) | (go_at_call 76; exact quiet_ov (latestTurn_any T.v T.lb (tmR T) T.y 50 _ (by omega) (by omega) (by omega) (by omega) (by omega) (by omega) (by omega) (by omega))))))); refine wpQuiet_nil ?_; intro w1 hb1; have hz1 := hb1.size; (try (simp at hz1)); obtain ⟨hcw1, hfw1⟩ := bcell hb1; (try (have hy1 : w.heap.size < w1.heap.size := by omega)); (try (have hyy1 : w.heap.size + 1 < w1.heap.size := by omega)))
    go_wp2_with fail
    go_ret2
    exact ⟨ret_ib HE.out.2.symm HE.out.1.symm, (by repeat (first | (with_reducible exact Below.refl _ _) | (with_reducible refine below_ov ?_ ?_) | (with_reducible refine Below.setCell ?_ ?_ _) | (with_reducible refine Below.alloc ?_ ?_ _) | (with_reducible refine Below.drew ?_) | (with_reducible refine below_drewN ?_ _) | (refine Below.trans ?_ (Below.mono ‹Below _ _ _› (by first | omega | (simp; done) | (simp; omega)))) | exact Below.refl _ _ | omega | (focus (simp; done)) | (focus (simp; omega))))⟩
  | true =>
    have HE : Hid (tmTOk T = true ∧ tmTN T = T.lm + latN T.v T.lb (tmR T) T.y 50) := by
      have h1 : 0 ≤ tmT T := of_decide_eq_true ht
      refine ⟨decide_eq_true h1, ?_⟩
      rw [tmTN, latN, if_neg (by omega), if_neg (by unfold tmT at h1; omega)]; rfl
    have f9 : 0 ≤ latN T.v T.lb (tmR T) T.y 50 ∧ latN T.v T.lb (tmR T) T.y 50 ≤ 600 := by
      have := timeF_bd T.v T.lb (tmR T) T.y 50
      unfold latN; split <;> omega
    (refine wp_region_below_lit (by kernel_rfl) (by kernel_rfl) ?_; (repeat (first | go_big_quiet_step ((first | (go_at_call 77; exact quiet_ov (cylinder_any T pb po lo hi vc _ (H.out.below (B := w.heap.size) (by repeat (first | (with_reducible exact Below.refl _ _) | (with_reducible refine below_ov ?_ ?_) | (with_reducible refine Below.setCell ?_ ?_ _) | (with_reducible refine Below.alloc ?_ ?_ _) | (with_reducible refine Below.drew ?_) | (with_reducible refine below_drewN ?_ _) | (refine Below.trans ?_ (Below.mono ‹Below _ _ _› (by first | omega | (simp; done) | (simp; omega)))) | exact Below.refl _ _ | omega | (focus (simp; done)) | (focus (simp; omega)))) (Nat.le_refl _)) HB.out)) | (go_at_call 78; exact quiet_ov (rate_any T pb po lo hi vc _ (H.out.below (B := w.heap.size) (by repeat (first | (with_reducible exact Below.refl _ _) | (with_reducible refine below_ov ?_ ?_) | (with_reducible refine Below.setCell ?_ ?_ _) | (with_reducible refine Below.alloc ?_ ?_ _) | (with_reducible refine Below.drew ?_) | (with_reducible refine below_drewN ?_ _) | (refine Below.trans ?_ (Below.mono ‹Below _ _ _› (by first | omega | (simp; done) | (simp; omega)))) | exact Below.refl _ _ | omega | (focus (simp; done)) | (focus (simp; omega)))) (Nat.le_refl _)) HB.out)) | (go_at_call 76; exact quiet_ov (latestTurn_any T.v T.lb (tmR T) T.y 50 _ (by omega) (by omega) (by omega) (by omega) (by omega) (by omega) (by omega) (by omega))))) | quiet_step ((first | (go_at_call 77; exact quiet_ov (cylinder_any T pb po lo hi vc _ (H.out.below (B := w.heap.size) (by repeat (first | (with_reducible exact Below.refl _ _) | (with_reducible refine below_ov ?_ ?_) | (with_reducible refine Below.setCell ?_ ?_ _) | (with_reducible refine Below.alloc ?_ ?_ _) | (with_reducible refine Below.drew ?_) | (with_reducible refine below_drewN ?_ _) | (refine Below.trans ?_ (Below.mono ‹Below _ _ _› (by first | omega | (simp; done) | (simp; omega)))) | exact Below.refl _ _ | omega | (focus (simp; done)) | (focus (simp; omega)))) (Nat.le_refl _)) HB.out)) | (go_at_call 78; exact quiet_ov (rate_any T pb po lo hi vc _ (H.out.below (B := w.heap.size) (by repeat (first | (with_reducible exact Below.refl _ _) | (with_reducible refine below_ov ?_ ?_) | (with_reducible refine Below.setCell ?_ ?_ _) | (with_reducible refine Below.alloc ?_ ?_ _) | (with_reducible refine Below.drew ?_) | (with_reducible refine below_drewN ?_ _) | (refine Below.trans ?_ (Below.mono ‹Below _ _ _› (by first | omega | (simp; done) | (simp; omega)))) | exact Below.refl _ _ | omega | (focus (simp; done)) | (focus (simp; omega)))) (Nat.le_refl _)) HB.out)) | (go_at_call 76; exact quiet_ov (latestTurn_any T.v T.lb (tmR T) T.y 50 _ (by omega) (by omega) (by omega) (by omega) (by omega) (by omega) (by omega) (by omega))))))); refine wpQuiet_nil ?_; intro w1 hb1; have hz1 := hb1.size; (try (simp at hz1)); obtain ⟨hcw1, hfw1⟩ := bcell hb1; (try (have hy1 : w.heap.size < w1.heap.size := by omega)); (try (have hyy1 : w.heap.size + 1 < w1.heap.size := by omega)))
    go_wp2_with fail
    refine (last_any T pb po lo hi vc _ (H.out.below (B := w.heap.size) (by repeat (first | (with_reducible exact Below.refl _ _) | (with_reducible refine below_ov ?_ ?_) | (with_reducible refine Below.setCell ?_ ?_ _) | (with_reducible refine Below.alloc ?_ ?_ _) | (with_reducible refine Below.drew ?_) | (with_reducible refine below_drewN ?_ _) | (refine Below.trans ?_ (Below.mono ‹Below _ _ _› (by first | omega | (simp; done) | (simp; omega)))) | exact Below.refl _ _ | omega | (focus (simp; done)) | (focus (simp; omega)))) (Nat.le_refl _)) HB.out).mono ?_
    rintro e w3 ⟨rfl, hb3⟩
    have hz3 := hb3.size
    go_wp2_with fail
    go_ret2
    exact ⟨ret_ib HE.out.2.symm HE.out.1.symm, (by repeat (first | (with_reducible exact Below.refl _ _) | (with_reducible refine below_ov ?_ ?_) | (with_reducible refine Below.setCell ?_ ?_ _) | (with_reducible refine Below.alloc ?_ ?_ _) | (with_reducible refine Below.drew ?_) | (with_reducible refine below_drewN ?_ _) | (refine Below.trans ?_ (Below.mono ‹Below _ _ _› (by first | omega | (simp; done) | (simp; omega)))) | exact Below.refl _ _ | omega | (focus (simp; done)) | (focus (simp; omega))))⟩
set_option maxRecDepth 100000 in
set_option maxHeartbeats 1600000 in
theorem enTurn_any (T : Tm) (lo hi : Nat) (vc : Value) (w : World) (hs : Sl w lo hi 2 vc T.n (iiC T.m T.b)) (hhi : hi ≤ w.heap.size) (hB : tmB T = true) :
    Calls Try.prog 56 #[.agg #[.string T.s, .int .i64 T.v, .int .i64 T.y, vc]] w fun e w' => e = .returned (.tuple #[.int .i64 (tmTN T), .bool (tmTOk T)]) ∧ Below w.heap.size w w' := by
  have HB := hide hB
  obtain ⟨_, f2, f3, f4, f5, f6⟩ := tm_facts hB
  have f7 := tmT_bd T
  have f8 := tmR_bd (T := T)
  clear hB
  go_enter Try.func56, Try.ntmps56
  go_wp2_with fail
  refine (enLast_any T lo hi vc _ (hs.below (B := w.heap.size) (by repeat (first | (with_reducible exact Below.refl _ _) | (with_reducible refine below_ov ?_ ?_) | (with_reducible refine Below.setCell ?_ ?_ _) | (with_reducible refine Below.alloc ?_ ?_ _) | (with_reducible refine Below.drew ?_) | (with_reducible refine below_drewN ?_ _) | (refine Below.trans ?_ (Below.mono ‹Below _ _ _› (by first | omega | (simp; done) | (simp; omega)))) | exact Below.refl _ _ | omega | (focus (simp; done)) | (focus (simp; omega)))) hhi) (by first | omega | (simp; done) | (simp; omega)) HB.out).mono ?_
  rintro e w1 ⟨rfl, hb1⟩
  have hz1 := hb1.size
  go_wp2_with fail
  have x0 : w1.cell? ⟨w.heap.size, 0, none⟩ = some (.string T.s) := (hb1.cell (p := ⟨w.heap.size, 0, none⟩) (by simp)).trans (World.cell?_alloc_new _ _ _ _)
  have x1 : w1.cell? ⟨w.heap.size, 1, none⟩ = some (.int .i64 T.v) := (hb1.cell (p := ⟨w.heap.size, 1, none⟩) (by simp)).trans (World.cell?_alloc_new _ _ _ _)
  have x2 : w1.cell? ⟨w.heap.size, 2, none⟩ = some (.int .i64 T.y) := (hb1.cell (p := ⟨w.heap.size, 2, none⟩) (by simp)).trans (World.cell?_alloc_new _ _ _ _)
  have x3 : w1.cell? ⟨w.heap.size, 3, none⟩ = some vc := (hb1.cell (p := ⟨w.heap.size, 3, none⟩) (by simp)).trans (World.cell?_alloc_new _ _ _ _)
  have l1 : w.heap.size < w1.heap.size := by simp at hz1; omega
  cases ht : decide (timeF T.v T.lb (tmR T) T.y 50 < 0) with
  | true =>
    have HE : Hid (tmTOk T = false ∧ tmTN T = 0) := by
      have h1 : tmT T < 0 := of_decide_eq_true ht
      exact ⟨decide_eq_false (by omega), by rw [tmTN, if_pos h1]⟩
    (refine wp_region_below_lit (by kernel_rfl) (by kernel_rfl) ?_; (repeat (first | go_big_quiet_step ((first | (go_at_call 80; exact quiet_ov (enRate_any T lo hi vc _ (hs.below (B := w.heap.size) (by repeat (first | (with_reducible exact Below.refl _ _) | (with_reducible refine below_ov ?_ ?_) | (with_reducible refine Below.setCell ?_ ?_ _) | (with_reducible refine Below.alloc ?_ ?_ _) | (with_reducible refine Below.drew ?_) | (with_reducible refine below_drewN ?_ _) | (refine Below.trans ?_ (Below.mono ‹Below _ _ _› (by first | omega | (simp; done) | (simp; omega)))) | exact Below.refl _ _ | omega | (focus (simp; done)) | (focus (simp; omega)))) hhi) (by simp [ov]; omega) HB.out)) | (go_at_call 79; exact quiet_ov (cyTime_any T.v T.lb (tmR T) T.y 50 _ (by omega) (by omega) (by omega) (by omega) (by omega) (by omega) (by omega) (by omega))))) | quiet_step ((first | (go_at_call 80; exact quiet_ov (enRate_any T lo hi vc _ (hs.below (B := w.heap.size) (by repeat (first | (with_reducible exact Below.refl _ _) | (with_reducible refine below_ov ?_ ?_) | (with_reducible refine Below.setCell ?_ ?_ _) | (with_reducible refine Below.alloc ?_ ?_ _) | (with_reducible refine Below.drew ?_) | (with_reducible refine below_drewN ?_ _) | (refine Below.trans ?_ (Below.mono ‹Below _ _ _› (by first | omega | (simp; done) | (simp; omega)))) | exact Below.refl _ _ | omega | (focus (simp; done)) | (focus (simp; omega)))) hhi) (by simp [ov]; omega) HB.out)) | (go_at_call 79; exact quiet_ov (cyTime_any T.v T.lb (tmR T) T.y 50 _ (by omega) (by omega) (by omega) (by omega) (by omega) (by omega) (by omega) (by omega))))))); refine wpQuiet_nil ?_; intro w2 hb2; have hz2 := hb2.size; (try (simp at hz2)); obtain ⟨hcw2, hfw2⟩ := bcell hb2; (try (have hy2 : w.heap.size < w2.heap.size := by omega)); (try (have hyy2 : w.heap.size + 1 < w2.heap.size := by omega)))
    go_wp2_with fail
    go_ret2
    exact ⟨ret_ib HE.out.2.symm HE.out.1.symm, (by repeat (first | (with_reducible exact Below.refl _ _) | (with_reducible refine below_ov ?_ ?_) | (with_reducible refine Below.setCell ?_ ?_ _) | (with_reducible refine Below.alloc ?_ ?_ _) | (with_reducible refine Below.drew ?_) | (with_reducible refine below_drewN ?_ _) | (refine Below.trans ?_ (Below.mono ‹Below _ _ _› (by first | omega | (simp; done) | (simp; omega)))) | exact Below.refl _ _ | omega | (focus (simp; done)) | (focus (simp; omega))))⟩
  | false =>
    have HE : Hid (tmTOk T = true ∧ tmTN T = T.lm + timeF T.v T.lb (tmR T) T.y 50) := by
      have h1 : ¬ tmT T < 0 := of_decide_eq_false ht
      exact ⟨decide_eq_true (by omega), by rw [tmTN, if_neg h1]; rfl⟩
    have f9 := timeF_bd T.v T.lb (tmR T) T.y 50
    (refine wp_region_below_lit (by kernel_rfl) (by kernel_rfl) ?_; (repeat (first | go_big_quiet_step ((first | (go_at_call 80; exact quiet_ov (enRate_any T lo hi vc _ (hs.below (B := w.heap.size) (by repeat (first | (with_reducible exact Below.refl _ _) | (with_reducible refine below_ov ?_ ?_) | (with_reducible refine Below.setCell ?_ ?_ _) | (with_reducible refine Below.alloc ?_ ?_ _) | (with_reducible refine Below.drew ?_) | (with_reducible refine below_drewN ?_ _) | (refine Below.trans ?_ (Below.mono ‹Below _ _ _› (by first | omega | (simp; done) | (simp; omega)))) | exact Below.refl _ _ | omega | (focus (simp; done)) | (focus (simp; omega)))) hhi) (by simp [ov]; omega) HB.out)) | (go_at_call 79; exact quiet_ov (cyTime_any T.v T.lb (tmR T) T.y 50 _ (by omega) (by omega) (by omega) (by omega) (by omega) (by omega) (by omega) (by omega))))) | quiet_step ((first | (go_at_call 80; exact quiet_ov (enRate_any T lo hi vc _ (hs.below (B := w.heap.size) (by repeat (first | (with_reducible exact Below.refl _ _) | (with_reducible refine below_ov ?_ ?_) | (with_reducible refine Below.setCell ?_ ?_ _) | (with_reducible refine Below.alloc ?_ ?_ _) | (with_reducible refine Below.drew ?_) | (with_reducible refine below_drewN ?_ _) | (refine Below.trans ?_ (Below.mono ‹Below _ _ _› (by first | omega | (simp; done) | (simp; omega)))) | exact Below.refl _ _ | omega | (focus (simp; done)) | (focus (simp; omega)))) hhi) (by simp [ov]; omega) HB.out)) | (go_at_call 79; exact quiet_ov (cyTime_any T.v T.lb (tmR T) T.y 50 _ (by omega) (by omega) (by omega) (by omega) (by omega) (by omega) (by omega) (by omega))))))); refine wpQuiet_nil ?_; intro w2 hb2; have hz2 := hb2.size; (try (simp at hz2)); obtain ⟨hcw2, hfw2⟩ := bcell hb2; (try (have hy2 : w.heap.size < w2.heap.size := by omega)); (try (have hyy2 : w.heap.size + 1 < w2.heap.size := by omega)))
    go_wp2_with fail
    go_ret2
    exact ⟨ret_ib HE.out.2.symm HE.out.1.symm, (by repeat (first | (with_reducible exact Below.refl _ _) | (with_reducible refine below_ov ?_ ?_) | (with_reducible refine Below.setCell ?_ ?_ _) | (with_reducible refine Below.alloc ?_ ?_ _) | (with_reducible refine Below.drew ?_) | (with_reducible refine below_drewN ?_ _) | (refine Below.trans ?_ (Below.mono ‹Below _ _ _› (by first | omega | (simp; done) | (simp; omega)))) | exact Below.refl _ _ | omega | (focus (simp; done)) | (focus (simp; omega))))⟩

end Go.Proofs.Ytnfhgnibjebmlaa
