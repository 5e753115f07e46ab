/-
  Texts of this proof, one behind the other (part 13).
-/
import Derived.Test.YtnfhgnibjebmlaaQ12
import Derived.BigRegion
/-
  Walks: a team leaves: the reference.-/
namespace Go.Proofs.Ytnfhgnibjebmlaa
set_option linter.unusedVariables false
set_option linter.unusedSimpArgs false
open Go.RowKit

section
variable {w w' : World} {lo hi n cap b off : Nat} {T : Nat → Tm}
/-- The first k of a board; the rest of it. -/
theorem SlT.take (h : SlT w lo hi (.slice (some ⟨b, off, none⟩) n cap) n T) {k : Nat} (hk : k ≤ n) : SlT w lo hi (.slice (some ⟨b, off, none⟩) k cap) k T := by
  obtain ⟨ck, ⟨A, c, he, hc, hA⟩, h2⟩ := h
  injection he with e1 _ e3
  subst e1 e3
  exact ⟨ck, ⟨_, _, rfl, by omega, fun h0 => by
    obtain ⟨b', o', a1, a2, a3, a4⟩ := hA (by omega)
    exact ⟨b', o', a1, a2, a3, fun i j hi hj => a4 i j (by omega) hj⟩⟩, fun i hi => h2 i (by omega)⟩
theorem SlT.drop (h : SlT w lo hi (.slice (some ⟨b, off, none⟩) n cap) n T) {k d : Nat} (hk : k + d = n) : SlT w lo hi (.slice (if cap = k then some ⟨b, off, none⟩ else some ⟨b, off + k * 4, none⟩) d (cap - k)) d (fun i => T (k + i)) := by
  obtain ⟨ck, ⟨A, c, he, hc, hA⟩, h2⟩ := h
  injection he with e1 _ e3
  subst e1 e3
  refine ⟨fun i => ck (k + i), ⟨_, _, rfl, by omega, fun h0 => ?_⟩, fun i hi => h2 _ (by omega)⟩
  obtain ⟨b', o', a1, a2, a3, a4⟩ := hA (by omega)
  injection a1 with a1
  injection a1 with x1 x2
  subst x1 x2
  refine ⟨b, off + k * 4, by rw [if_neg (by omega)], a2, a3, fun i j hi hj => ?_⟩
  have := a4 (k + i) j (by omega) hj
  rw [show off + (k + i) * 4 + j = off + k * 4 + i * 4 + j by omega] at this
  exact this
end
set_option maxRecDepth 100000 in
set_option maxHeartbeats 3200000 in
theorem LeaveTeam_spec (T : Nat → Tm) (n : Nat) (s : ByteArray) (lo hi : Nat) (v : Value) (w : World) (hv : SlT w lo hi v n T) (hhi : hi ≤ w.heap.size) (hf : tfits T n) (hms : s.size ≤ maxLen) :
    Calls Try.prog 28 #[v, .string s] w (BrdRes (lvT T n s) (lvN T n s) (lvOk T n s) w) := by
  obtain ⟨A, cap, rfl, hcap⟩ := hv.open_
  have hn : n ≤ 1048576 := hf.1
  cases hB : bdB T n with
  | false =>
    have HF : Hid (lvOk T n s = false) := by show _ = _; simp [lvOk, hB]
    have HN : Hid (lvN T n s = 0) := by show _ = _; rw [lvN, HF.out]; rfl
    go_enter Try.func28, Try.ntmps28
    go_wp2_with fail
    refine (enFind_any T n s lo hi _ _ (hv.below (B := w.heap.size) (by repeat (first | (with_reducible exact Below.refl _ _) | (with_reducible refine below_ov ?_ ?_) | (with_reducible refine Below.setCell ?_ ?_ _) | (with_reducible refine Below.alloc ?_ ?_ _) | (with_reducible refine Below.drew ?_) | (with_reducible refine below_drewN ?_ _) | (refine Below.trans ?_ (Below.mono ‹Below _ _ _› (by first | omega | (simp; done) | (simp; omega)))) | exact Below.refl _ _ | omega | (focus (simp; done)) | (focus (simp; omega)))) hhi) hhi hn).mono ?_
    rintro e w1 ⟨rfl, hb1⟩
    have hz1 := hb1.size
    go_wp2_with fail
    refine (enGood_any T n lo hi _ _ (hv.below (B := w.heap.size) (by repeat (first | (with_reducible exact Below.refl _ _) | (with_reducible refine below_ov ?_ ?_) | (with_reducible refine Below.setCell ?_ ?_ _) | (with_reducible refine Below.alloc ?_ ?_ _) | (with_reducible refine Below.drew ?_) | (with_reducible refine below_drewN ?_ _) | (refine Below.trans ?_ (Below.mono ‹Below _ _ _› (by first | omega | (simp; done) | (simp; omega)))) | exact Below.refl _ _ | omega | (focus (simp; done)) | (focus (simp; omega)))) hhi) (by first | omega | (simp; done) | (simp; omega)) hf).mono ?_
    rintro e w2 ⟨rfl, hb2⟩
    have hz2 := hb2.size
    rw [hB]
    go_wp2_with fail
    go_ret2
    rw [HF.out]
    exact brd_nil HN.out (by repeat (first | (with_reducible exact Below.refl _ _) | (with_reducible refine below_ov ?_ ?_) | (with_reducible refine Below.setCell ?_ ?_ _) | (with_reducible refine Below.alloc ?_ ?_ _) | (with_reducible refine Below.drew ?_) | (with_reducible refine below_drewN ?_ _) | (refine Below.trans ?_ (Below.mono ‹Below _ _ _› (by first | omega | (simp; done) | (simp; omega)))) | exact Below.refl _ _ | omega | (focus (simp; done)) | (focus (simp; omega))))
  | true =>
    have HB := hide hB
    cases hF : fdB T n s with
    | false =>
      have HF : Hid (lvOk T n s = false) := by show _ = _; simp [lvOk, hF]
      have HN : Hid (lvN T n s = 0) := by show _ = _; rw [lvN, HF.out]; rfl
      go_enter Try.func28, Try.ntmps28
      go_wp2_with fail
      refine (enFind_any T n s lo hi _ _ (hv.below (B := w.heap.size) (by repeat (first | (with_reducible exact Below.refl _ _) | (with_reducible refine below_ov ?_ ?_) | (with_reducible refine Below.setCell ?_ ?_ _) | (with_reducible refine Below.alloc ?_ ?_ _) | (with_reducible refine Below.drew ?_) | (with_reducible refine below_drewN ?_ _) | (refine Below.trans ?_ (Below.mono ‹Below _ _ _› (by first | omega | (simp; done) | (simp; omega)))) | exact Below.refl _ _ | omega | (focus (simp; done)) | (focus (simp; omega)))) hhi) hhi hn).mono ?_
      rintro e w1 ⟨rfl, hb1⟩
      have hz1 := hb1.size
      rw [hF]
      go_wp2_with fail
      refine (enGood_any T n lo hi _ _ (hv.below (B := w.heap.size) (by repeat (first | (with_reducible exact Below.refl _ _) | (with_reducible refine below_ov ?_ ?_) | (with_reducible refine Below.setCell ?_ ?_ _) | (with_reducible refine Below.alloc ?_ ?_ _) | (with_reducible refine Below.drew ?_) | (with_reducible refine below_drewN ?_ _) | (refine Below.trans ?_ (Below.mono ‹Below _ _ _› (by first | omega | (simp; done) | (simp; omega)))) | exact Below.refl _ _ | omega | (focus (simp; done)) | (focus (simp; omega)))) hhi) (by first | omega | (simp; done) | (simp; omega)) hf).mono ?_
      rintro e w2 ⟨rfl, hb2⟩
      have hz2 := hb2.size
      rw [hB]
      go_wp2_with fail
      go_ret2
      rw [HF.out]
      exact brd_nil HN.out (by repeat (first | (with_reducible exact Below.refl _ _) | (with_reducible refine below_ov ?_ ?_) | (with_reducible refine Below.setCell ?_ ?_ _) | (with_reducible refine Below.alloc ?_ ?_ _) | (with_reducible refine Below.drew ?_) | (with_reducible refine below_drewN ?_ _) | (refine Below.trans ?_ (Below.mono ‹Below _ _ _› (by first | omega | (simp; done) | (simp; omega)))) | exact Below.refl _ _ | omega | (focus (simp; done)) | (focus (simp; omega))))
    | true =>
      have HE : Hid (lvOk T n s = true) := by show _ = _; simp [lvOk, hF, HB.out]
      have hkn := fdB_lt hF
      obtain ⟨k, hk⟩ : ∃ k, k = fdK T n s := ⟨_, rfl⟩
      rw [← hk] at hkn
      obtain ⟨d, rfl⟩ : ∃ d, n = k + d + 1 := ⟨n - 1 - k, by omega⟩
      have HN : Hid (lvN T (k + d + 1) s = k + d) := by show _ = _; rw [lvN, HE.out]; simp
      have HT : Hid (lvT T (k + d + 1) s = fun i => T (skp k i)) := by show _ = _; funext i; rw [lvT, ← hk]
      have hn6 := (bd_facts HB.out).1
      have HK := hide hk
      obtain ⟨blk, off, dk, rfl, _, _, _⟩ := hv.at_ hhi (by omega)
      clear hk
      go_enter Try.func28, Try.ntmps28
      go_wp2_with fail
      refine (enFind_any T _ s lo hi _ _ (hv.below (B := w.heap.size) (by repeat (first | (with_reducible exact Below.refl _ _) | (with_reducible refine below_ov ?_ ?_) | (with_reducible refine Below.setCell ?_ ?_ _) | (with_reducible refine Below.alloc ?_ ?_ _) | (with_reducible refine Below.drew ?_) | (with_reducible refine below_drewN ?_ _) | (refine Below.trans ?_ (Below.mono ‹Below _ _ _› (by first | omega | (simp; done) | (simp; omega)))) | exact Below.refl _ _ | omega | (focus (simp; done)) | (focus (simp; omega)))) hhi) hhi hn).mono ?_
      rintro e w1 ⟨rfl, hb1⟩
      have hz1 := hb1.size
      rw [hF, ← HK.out]
      go_wp2_with fail
      refine (enGood_any T _ lo hi _ _ (hv.below (B := w.heap.size) (by repeat (first | (with_reducible exact Below.refl _ _) | (with_reducible refine below_ov ?_ ?_) | (with_reducible refine Below.setCell ?_ ?_ _) | (with_reducible refine Below.alloc ?_ ?_ _) | (with_reducible refine Below.drew ?_) | (with_reducible refine below_drewN ?_ _) | (refine Below.trans ?_ (Below.mono ‹Below _ _ _› (by first | omega | (simp; done) | (simp; omega)))) | exact Below.refl _ _ | omega | (focus (simp; done)) | (focus (simp; omega)))) hhi) (by first | omega | (simp; done) | (simp; omega)) hf).mono ?_
      rintro e w2 ⟨rfl, hb2⟩
      have hz2 := hb2.size
      rw [hB]
      go_wp2_with fail
      have l1 : k ≤ cap := by omega
      have l2 : k + 1 ≤ cap := by omega
      have l5 : (k : Int) + 1 ≤ (k : Int) + (d : Int) + 1 := by omega
      have l6 : (0 : Int) ≤ (k : Int) + 1 := by omega
      have hw1 : IntKind.i64.wrap ((k : Int) + 1) = (k : Int) + 1 := by rw [IntKind.wrap_i64]; omega
      obtain ⟨ii, hii, iz0, iz1, iz2⟩ := info_parts infoTeam
      have hfk : tfits T k := ⟨by omega, fun i hi => hf.2 i (by omega)⟩
      have hfd : tfits (fun i => T (k + 1 + i)) d := ⟨by omega, fun i hi => hf.2 _ (by omega)⟩
      refine wp_region_mix [(0, true), (1, true), (2, true), (4, true), (5, true), (6, true), (7, true), (3, false), (8, false), (9, false), (10, true), (11, true)] (fun _ => True) (by kernel_rfl) (by kernel_rfl) (by kernel_rfl) (by kernel_rfl) trivial ?_
      refine mix_look _ _ rfl rfl (fun w' _ => BigFrame.run_move _ rfl w') ?_
      go_simp
      refine mix_look _ _ rfl rfl (fun w' _ => BigFrame.run_move _ rfl w') ?_
      go_simp
      refine mix_look _ (.slice (some ⟨blk, off, none⟩) k cap) rfl rfl (fun w' _ => (by go_simp)) ?_
      go_simp
      refine mix_look _ _ rfl rfl (fun w' _ => BigFrame.run_move _ rfl w') ?_
      go_simp
      refine mix_look _ _ rfl rfl (fun w' _ => BigFrame.run_move _ rfl w') ?_
      go_simp
      refine mix_look _ (.int .i64 ((k : Int) + 1)) rfl rfl (fun w' _ => (by go_simp)) ?_
      go_simp
      refine mix_look _ (.slice (if cap = k + 1 then some ⟨blk, off, none⟩ else some ⟨blk, off + (k + 1) * 4, none⟩) d (cap - (k + 1))) rfl rfl (fun w' _ => (by go_simp)) ?_
      go_simp
      refine mix_call _ 43 #[.slice (some ⟨blk, off, none⟩) k cap] rfl rfl (by go_simp) ?_
      have hv2 : SlT w2.drew lo hi (.slice (some ⟨blk, off, none⟩) (k + d + 1) cap) (k + d + 1) T := hv.below (B := w.heap.size) (by repeat (first | (with_reducible exact Below.refl _ _) | (with_reducible refine below_ov ?_ ?_) | (with_reducible refine Below.setCell ?_ ?_ _) | (with_reducible refine Below.alloc ?_ ?_ _) | (with_reducible refine Below.drew ?_) | (with_reducible refine below_drewN ?_ _) | (refine Below.trans ?_ (Below.mono ‹Below _ _ _› (by first | omega | (simp; done) | (simp; omega)))) | exact Below.refl _ _ | omega | (focus (simp; done)) | (focus (simp; omega)))) hhi
      refine (enOwnAll_raw T k lo hi _ _ (hv2.take (by omega)) (by simp; omega) hfk (fun i hi => bd_pos HB.out i (by omega))).mono ?_
      rintro e w3 ⟨v3, β3, ck3, rfl, hr3, hs3, hb3⟩
      have hz3 := hb3.size
      (try (simp at hz3))
      refine ⟨_, rfl, trivial, ?_⟩
      obtain ⟨A3, c3, rfl⟩ := row_form hr3
      go_simp
      refine mix_call _ 43 #[.slice (if cap = k + 1 then some ⟨blk, off, none⟩ else some ⟨blk, off + (k + 1) * 4, none⟩) d (cap - (k + 1))] rfl rfl (by go_simp) ?_
      have hv3 : SlT w3 lo hi (.slice (some ⟨blk, off, none⟩) (k + d + 1) cap) (k + d + 1) T := hv2.below hb3 (by simp; omega)
      refine (enOwnAll_raw (fun i => T (k + 1 + i)) d lo hi _ _ (hv3.drop (by omega)) (by omega) hfd (fun i hi => bd_pos HB.out _ (by omega))).mono ?_
      rintro e w4 ⟨v4, β4, ck4, rfl, hr4, hs4, hb4⟩
      have hz4 := hb4.size
      refine ⟨_, rfl, trivial, ?_⟩
      obtain ⟨A4, c4, rfl⟩ := row_form hr4
      go_simp
      have hr3' := row_below hr3 hb4 (Nat.le_refl _)
      have hs3' := hs3.below hb4 (Nat.le_refl _)
      obtain ⟨v5, w5, q1, q2, q3⟩ := run_append_rows (P := Try.prog) w4 _ _ 24 24 27 ii (.agg #[.string ⟨#[]⟩, .int .i64 0, .int .i64 0, .slice none 0 0]) 4 56 Try.underlying24 hii iz0 iz1 iz2 rfl (by decide) _ _ _ _ _ _ hr3' hr4 (fun u hu => row_one hs4.one hu) (by unfold maxLen; omega) (by omega) (by simp; omega)
      refine mix_value _ v5 w5 rfl rfl (run_op_append _ _ 24 rfl rfl rfl q1) trivial ?_
      obtain ⟨A5, c5, rfl⟩ := row_form q2
      go_simp
      refine mix_look _ _ rfl rfl (fun w' _ => BigFrame.run_assign _ rfl w') ?_
      go_simp
      refine mix_look _ _ rfl rfl (fun w' _ => BigFrame.run_assign _ rfl w') ?_
      go_simp
      have hp1 : ∀ i, i < k → 0 < (T i).n := fun i hi => bd_pos HB.out i (by omega)
      have hp2 : ∀ i, i < d → 0 < (T (k + 1 + i)).n := fun i hi => bd_pos HB.out _ (by omega)
      have ha := (hs3'.grown hp1 hr3' q3).app (hs4.grown hp2 hr3' q3) (by simp; omega) (fun i hi => (hs3.1 i hi).2.2)
      rw [rowL_join] at q2
      have hTT : ∀ i, i < k + d → (if i < k then T i else T (k + 1 + (i - k))) = T (skp k i) := fun i hi => by
        unfold skp
        split
        · rfl
        · rw [show k + 1 + (i - k) = i + 1 by omega]
      have hbrd := (ha.board (fun i hi => by
        show 0 < (if i < k then T i else T (k + 1 + (i - k))).n
        rw [hTT i hi]
        exact bd_pos HB.out _ (skp_le hi)) q2).congr hTT
      have hb04 : Below w.heap.size w w4 := (by repeat (first | (with_reducible exact Below.refl _ _) | (with_reducible refine below_ov ?_ ?_) | (with_reducible refine Below.setCell ?_ ?_ _) | (with_reducible refine Below.alloc ?_ ?_ _) | (with_reducible refine Below.drew ?_) | (with_reducible refine below_drewN ?_ _) | (refine Below.trans ?_ (Below.mono ‹Below _ _ _› (by first | omega | (simp; done) | (simp; omega)))) | exact Below.refl _ _ | omega | (focus (simp; done)) | (focus (simp; omega))))
      have hb05 : Below w.heap.size w w5 := hb04.grown q3 (by omega) fun g hg => by
        have := (hr3'.lt g hg).1
        simp at this
        omega
      have HR : Hid (OwnT w5 w.heap.size w5.heap.size (.slice A5 (k + d) c5) (k + d) (fun i => T (skp k i))) := hbrd.mono (by simp; omega) (Nat.le_refl _)
      clear hbrd ha q1 q2 q3 hs3 hs4 hs3' hr3 hr4 hr3' hv2 hv3 hp1 hp2 hTT
      refine wpMix_nil ?_
      go_wp2_with fail
      all_goals
        go_ret2
        rw [HE.out, HN.out, HT.out]
        exact ⟨_, rfl, HR.out, hb05⟩

end Go.Proofs.Ytnfhgnibjebmlaa

/-
  Walks: a team enters: the reference.-/
namespace Go.Proofs.Ytnfhgnibjebmlaa
set_option linter.unusedVariables false
set_option linter.unusedSimpArgs false
open Go.RowKit

theorem SlT.none_ {w : World} {lo hi : Nat} {v : Value} {T T' : Nat → Tm} (h : SlT w lo hi v 0 T) : SlT w lo hi v 0 T' := by
  obtain ⟨ck, ⟨A, c, he, hc, _⟩, _⟩ := h
  exact ⟨ck, ⟨A, c, he, hc, fun h => absurd h (Nat.lt_irrefl _)⟩, fun i h => absurd h (Nat.not_lt_zero _)⟩
theorem ins_k (T : Nat → Tm) (k : Nat) (X : Tm) : insT T k X k = X := by simp [insT]
theorem ins_pos {T : Nat → Tm} {k n i : Nat} {X : Tm} (hX : 0 < X.n) (h : ∀ j, j < n → 0 < (T j).n) (hi : i < n + 1) (hk : k ≤ n) : 0 < (insT T k X i).n := by
  unfold insT
  split
  · exact h i (by omega)
  · split
    · exact hX
    · exact h _ (by omega)
theorem rowL_ins (T : Nat → Tm) (ck : Nat → Value) (k : Nat) (X : Tm) (u : Value) : rowL (tC T ck) 4 k ++ [.string X.s, .int .i64 X.v, .int .i64 X.y, u] = rowL (tC (insT T k X) (fun i => if i = k then u else ck i)) 4 (k + 1) := by
  rw [rowL]
  congr 1
  · refine rowL_congr fun i j hi _ => ?_
    have : ¬ i = k := by omega
    simp only [tC, insT, hi, this, if_true, if_false]
  · simp [List.range, List.range.loop, tC, insT]
set_option maxRecDepth 100000 in
set_option maxHeartbeats 3200000 in
theorem EnterTeam_spec (T : Nat → Tm) (n : Nat) (X : Tm) (lo hi lo' hi' : Nat) (v vx : Value) (w : World) (hv : SlT w lo hi v n T) (hhi : hi ≤ w.heap.size) (hf : tfits T n) (hx : Sl w lo' hi' 2 vx X.n (iiC X.m X.b)) (hhi' : hi' ≤ w.heap.size) (hfx : X.fits) :
    Calls Try.prog 7 #[v, .agg #[.string X.s, .int .i64 X.v, .int .i64 X.y, vx]] w (BrdRes (etT T n X) (etN T n X) (etOk T n X) w) := by
  obtain ⟨A, cap, rfl, hcap⟩ := hv.open_
  obtain ⟨B, capx, rfl, hcapx, hBx⟩ := hx.open_
  have hn : n ≤ 1048576 := hf.1
  cases hB : bdB T n with
  | false =>
    have HF : Hid (etOk T n X = false) := by show _ = _; simp [etOk, hB]
    have HN : Hid (etN T n X = 0) := by show _ = _; rw [etN, HF.out]; rfl
    go_enter Try.func7, Try.ntmps7
    go_wp2_with fail
    refine (enGood_any T n lo hi _ _ (hv.below (B := w.heap.size) (by repeat (first | (with_reducible exact Below.refl _ _) | (with_reducible refine below_ov ?_ ?_) | (with_reducible refine Below.setCell ?_ ?_ _) | (with_reducible refine Below.alloc ?_ ?_ _) | (with_reducible refine Below.drew ?_) | (with_reducible refine below_drewN ?_ _) | (refine Below.trans ?_ (Below.mono ‹Below _ _ _› (by first | omega | (simp; done) | (simp; omega)))) | exact Below.refl _ _ | omega | (focus (simp; done)) | (focus (simp; omega)))) hhi) (by first | omega | (simp; done) | (simp; omega)) hf).mono ?_
    rintro e w2 ⟨rfl, hb2⟩
    have hz2 := hb2.size
    (try (simp at hz2))
    rw [hB]
    go_wp2_with fail
    go_ret2
    rw [HF.out]
    exact brd_nil HN.out (by repeat (first | (with_reducible exact Below.refl _ _) | (with_reducible refine below_ov ?_ ?_) | (with_reducible refine Below.setCell ?_ ?_ _) | (with_reducible refine Below.alloc ?_ ?_ _) | (with_reducible refine Below.drew ?_) | (with_reducible refine below_drewN ?_ _) | (refine Below.trans ?_ (Below.mono ‹Below _ _ _› (by first | omega | (simp; done) | (simp; omega)))) | exact Below.refl _ _ | omega | (focus (simp; done)) | (focus (simp; omega))))
  | true =>
    have HB := hide hB
    have hn6 := (bd_facts HB.out).1
    cases hC : tmB X with
    | false =>
      have HF : Hid (etOk T n X = false) := by show _ = _; simp [etOk, hC]
      have HN : Hid (etN T n X = 0) := by show _ = _; rw [etN, HF.out]; rfl
      go_enter Try.func7, Try.ntmps7
      go_wp2_with fail
      refine (enGood_any T n lo hi _ _ (hv.below (B := w.heap.size) (by repeat (first | (with_reducible exact Below.refl _ _) | (with_reducible refine below_ov ?_ ?_) | (with_reducible refine Below.setCell ?_ ?_ _) | (with_reducible refine Below.alloc ?_ ?_ _) | (with_reducible refine Below.drew ?_) | (with_reducible refine below_drewN ?_ _) | (refine Below.trans ?_ (Below.mono ‹Below _ _ _› (by first | omega | (simp; done) | (simp; omega)))) | exact Below.refl _ _ | omega | (focus (simp; done)) | (focus (simp; omega)))) hhi) (by first | omega | (simp; done) | (simp; omega)) hf).mono ?_
      rintro e w2 ⟨rfl, hb2⟩
      have hz2 := hb2.size
      (try (simp at hz2))
      rw [hB]
      have y0 : w2.cell? ⟨w.heap.size, 0, none⟩ = some (.string X.s) := (hb2.cell (p := ⟨w.heap.size, 0, none⟩) (by simp)).trans (World.cell?_alloc_new _ _ _ _)
      have y1 : w2.cell? ⟨w.heap.size, 1, none⟩ = some (.int .i64 X.v) := (hb2.cell (p := ⟨w.heap.size, 1, none⟩) (by simp)).trans (World.cell?_alloc_new _ _ _ _)
      have y2 : w2.cell? ⟨w.heap.size, 2, none⟩ = some (.int .i64 X.y) := (hb2.cell (p := ⟨w.heap.size, 2, none⟩) (by simp)).trans (World.cell?_alloc_new _ _ _ _)
      have y3 : w2.cell? ⟨w.heap.size, 3, none⟩ = some (.slice B X.n capx) := (hb2.cell (p := ⟨w.heap.size, 3, none⟩) (by simp)).trans (World.cell?_alloc_new _ _ _ _)
      go_wp2_with fail
      refine (enOne_any X lo' hi' _ _ (hx.below (B := w.heap.size) (((Below.refl _ _).alloc (Nat.le_refl _) _).trans (hb2.mono (by simp))) hhi') (by omega) hfx).mono ?_
      rintro e w3 ⟨rfl, hb3⟩
      have hz3 := hb3.size
      rw [hC]
      go_wp2_with fail
      go_ret2
      rw [HF.out]
      exact brd_nil HN.out (by repeat (first | (with_reducible exact Below.refl _ _) | (with_reducible refine below_ov ?_ ?_) | (with_reducible refine Below.setCell ?_ ?_ _) | (with_reducible refine Below.alloc ?_ ?_ _) | (with_reducible refine Below.drew ?_) | (with_reducible refine below_drewN ?_ _) | (refine Below.trans ?_ (Below.mono ‹Below _ _ _› (by first | omega | (simp; done) | (simp; omega)))) | exact Below.refl _ _ | omega | (focus (simp; done)) | (focus (simp; omega))))
    | true =>
      by_cases h6 : n = 6
      · subst h6
        have HF : Hid (etOk T 6 X = false) := by show _ = _; simp [etOk]
        have HN : Hid (etN T 6 X = 0) := by show _ = _; rw [etN, HF.out]; rfl
        go_enter Try.func7, Try.ntmps7
        go_wp2_with fail
        refine (enGood_any T 6 lo hi _ _ (hv.below (B := w.heap.size) (by repeat (first | (with_reducible exact Below.refl _ _) | (with_reducible refine below_ov ?_ ?_) | (with_reducible refine Below.setCell ?_ ?_ _) | (with_reducible refine Below.alloc ?_ ?_ _) | (with_reducible refine Below.drew ?_) | (with_reducible refine below_drewN ?_ _) | (refine Below.trans ?_ (Below.mono ‹Below _ _ _› (by first | omega | (simp; done) | (simp; omega)))) | exact Below.refl _ _ | omega | (focus (simp; done)) | (focus (simp; omega)))) hhi) (by first | omega | (simp; done) | (simp; omega)) hf).mono ?_
        rintro e w2 ⟨rfl, hb2⟩
        have hz2 := hb2.size
        (try (simp at hz2))
        rw [hB]
        have y0 : w2.cell? ⟨w.heap.size, 0, none⟩ = some (.string X.s) := (hb2.cell (p := ⟨w.heap.size, 0, none⟩) (by simp)).trans (World.cell?_alloc_new _ _ _ _)
        have y1 : w2.cell? ⟨w.heap.size, 1, none⟩ = some (.int .i64 X.v) := (hb2.cell (p := ⟨w.heap.size, 1, none⟩) (by simp)).trans (World.cell?_alloc_new _ _ _ _)
        have y2 : w2.cell? ⟨w.heap.size, 2, none⟩ = some (.int .i64 X.y) := (hb2.cell (p := ⟨w.heap.size, 2, none⟩) (by simp)).trans (World.cell?_alloc_new _ _ _ _)
        have y3 : w2.cell? ⟨w.heap.size, 3, none⟩ = some (.slice B X.n capx) := (hb2.cell (p := ⟨w.heap.size, 3, none⟩) (by simp)).trans (World.cell?_alloc_new _ _ _ _)
        go_wp2_with fail
        refine (enOne_any X lo' hi' _ _ (hx.below (B := w.heap.size) (((Below.refl _ _).alloc (Nat.le_refl _) _).trans (hb2.mono (by simp))) hhi') (by omega) hfx).mono ?_
        rintro e w3 ⟨rfl, hb3⟩
        have hz3 := hb3.size
        rw [hC]
        go_wp2_with fail
        go_ret2
        rw [HF.out]
        exact brd_nil HN.out (by repeat (first | (with_reducible exact Below.refl _ _) | (with_reducible refine below_ov ?_ ?_) | (with_reducible refine Below.setCell ?_ ?_ _) | (with_reducible refine Below.alloc ?_ ?_ _) | (with_reducible refine Below.drew ?_) | (with_reducible refine below_drewN ?_ _) | (refine Below.trans ?_ (Below.mono ‹Below _ _ _› (by first | omega | (simp; done) | (simp; omega)))) | exact Below.refl _ _ | omega | (focus (simp; done)) | (focus (simp; omega))))
      · have d6 : ((n : Int) == 6) = false := by simp; omega
        cases hD : fdB T n X.s with
        | true =>
          have HF : Hid (etOk T n X = false) := by show _ = _; simp [etOk, hD]
          have HN : Hid (etN T n X = 0) := by show _ = _; rw [etN, HF.out]; rfl
          clear h6
          go_enter Try.func7, Try.ntmps7
          go_wp2_with fail
          refine (enGood_any T n lo hi _ _ (hv.below (B := w.heap.size) (by repeat (first | (with_reducible exact Below.refl _ _) | (with_reducible refine below_ov ?_ ?_) | (with_reducible refine Below.setCell ?_ ?_ _) | (with_reducible refine Below.alloc ?_ ?_ _) | (with_reducible refine Below.drew ?_) | (with_reducible refine below_drewN ?_ _) | (refine Below.trans ?_ (Below.mono ‹Below _ _ _› (by first | omega | (simp; done) | (simp; omega)))) | exact Below.refl _ _ | omega | (focus (simp; done)) | (focus (simp; omega)))) hhi) (by first | omega | (simp; done) | (simp; omega)) hf).mono ?_
          rintro e w2 ⟨rfl, hb2⟩
          have hz2 := hb2.size
          (try (simp at hz2))
          rw [hB]
          have y0 : w2.cell? ⟨w.heap.size, 0, none⟩ = some (.string X.s) := (hb2.cell (p := ⟨w.heap.size, 0, none⟩) (by simp)).trans (World.cell?_alloc_new _ _ _ _)
          have y1 : w2.cell? ⟨w.heap.size, 1, none⟩ = some (.int .i64 X.v) := (hb2.cell (p := ⟨w.heap.size, 1, none⟩) (by simp)).trans (World.cell?_alloc_new _ _ _ _)
          have y2 : w2.cell? ⟨w.heap.size, 2, none⟩ = some (.int .i64 X.y) := (hb2.cell (p := ⟨w.heap.size, 2, none⟩) (by simp)).trans (World.cell?_alloc_new _ _ _ _)
          have y3 : w2.cell? ⟨w.heap.size, 3, none⟩ = some (.slice B X.n capx) := (hb2.cell (p := ⟨w.heap.size, 3, none⟩) (by simp)).trans (World.cell?_alloc_new _ _ _ _)
          go_wp2_with fail
          refine (enOne_any X lo' hi' _ _ (hx.below (B := w.heap.size) (((Below.refl _ _).alloc (Nat.le_refl _) _).trans (hb2.mono (by simp))) hhi') (by omega) hfx).mono ?_
          rintro e w3 ⟨rfl, hb3⟩
          have hz3 := hb3.size
          rw [hC]
          have hb23 := hb2.trans (hb3.mono (by simpa using hz2))
          have x0 : w3.cell? ⟨w.heap.size, 0, none⟩ = some (.string X.s) := (hb23.cell (p := ⟨w.heap.size, 0, none⟩) (by simp)).trans (World.cell?_alloc_new _ _ _ _)
          have x1 : w3.cell? ⟨w.heap.size, 1, none⟩ = some (.int .i64 X.v) := (hb23.cell (p := ⟨w.heap.size, 1, none⟩) (by simp)).trans (World.cell?_alloc_new _ _ _ _)
          have x2 : w3.cell? ⟨w.heap.size, 2, none⟩ = some (.int .i64 X.y) := (hb23.cell (p := ⟨w.heap.size, 2, none⟩) (by simp)).trans (World.cell?_alloc_new _ _ _ _)
          have x3 : w3.cell? ⟨w.heap.size, 3, none⟩ = some (.slice B X.n capx) := (hb23.cell (p := ⟨w.heap.size, 3, none⟩) (by simp)).trans (World.cell?_alloc_new _ _ _ _)
          have hb03 : Below w.heap.size w w3 := ((Below.refl _ _).alloc (Nat.le_refl _) _).trans (hb23.mono (by simp))
          have HB23 := hide hb23
          clear hb23
          go_wp2_with fail
          refine (enFind_any T n X.s lo hi _ _ (hv.below (B := w.heap.size) hb03 hhi) (by first | omega | (simp; done) | (simp; omega)) hn).mono ?_
          rintro e w4 ⟨rfl, hb4⟩
          have hz4 := hb4.size
          rw [hD]
          go_wp2_with fail
          go_ret2
          rw [HF.out]
          exact brd_nil HN.out (by repeat (first | (with_reducible exact Below.refl _ _) | (with_reducible refine below_ov ?_ ?_) | (with_reducible refine Below.setCell ?_ ?_ _) | (with_reducible refine Below.alloc ?_ ?_ _) | (with_reducible refine Below.drew ?_) | (with_reducible refine below_drewN ?_ _) | (refine Below.trans ?_ (Below.mono ‹Below _ _ _› (by first | omega | (simp; done) | (simp; omega)))) | exact Below.refl _ _ | omega | (focus (simp; done)) | (focus (simp; omega))))
        | false =>
          have HE : Hid (etOk T n X = true) := by show _ = _; simp [etOk, hD, hC, HB.out, h6]
          have HN : Hid (etN T n X = n + 1) := by show _ = _; rw [etN, if_pos HE.out]
          obtain ⟨k, hk⟩ : ∃ k, k = fdK T n X.s := ⟨_, rfl⟩
          have HK := hide hk
          have HT : Hid (etT T n X = insT T k X) := by show _ = _; rw [etT, ← hk]
          have hkn : k ≤ n := by rw [hk]; exact fdK_le _ _ _
          have hn5 : n ≤ 5 := by omega
          have hpX : 0 < X.n := by have := (tm_facts hC).2.2.2.1; omega
          clear h6 hk
          go_enter Try.func7, Try.ntmps7
          go_wp2_with fail
          refine (enGood_any T n lo hi _ _ (hv.below (B := w.heap.size) (by repeat (first | (with_reducible exact Below.refl _ _) | (with_reducible refine below_ov ?_ ?_) | (with_reducible refine Below.setCell ?_ ?_ _) | (with_reducible refine Below.alloc ?_ ?_ _) | (with_reducible refine Below.drew ?_) | (with_reducible refine below_drewN ?_ _) | (refine Below.trans ?_ (Below.mono ‹Below _ _ _› (by first | omega | (simp; done) | (simp; omega)))) | exact Below.refl _ _ | omega | (focus (simp; done)) | (focus (simp; omega)))) hhi) (by first | omega | (simp; done) | (simp; omega)) hf).mono ?_
          rintro e w2 ⟨rfl, hb2⟩
          have hz2 := hb2.size
          (try (simp at hz2))
          rw [hB]
          have y0 : w2.cell? ⟨w.heap.size, 0, none⟩ = some (.string X.s) := (hb2.cell (p := ⟨w.heap.size, 0, none⟩) (by simp)).trans (World.cell?_alloc_new _ _ _ _)
          have y1 : w2.cell? ⟨w.heap.size, 1, none⟩ = some (.int .i64 X.v) := (hb2.cell (p := ⟨w.heap.size, 1, none⟩) (by simp)).trans (World.cell?_alloc_new _ _ _ _)
          have y2 : w2.cell? ⟨w.heap.size, 2, none⟩ = some (.int .i64 X.y) := (hb2.cell (p := ⟨w.heap.size, 2, none⟩) (by simp)).trans (World.cell?_alloc_new _ _ _ _)
          have y3 : w2.cell? ⟨w.heap.size, 3, none⟩ = some (.slice B X.n capx) := (hb2.cell (p := ⟨w.heap.size, 3, none⟩) (by simp)).trans (World.cell?_alloc_new _ _ _ _)
          go_wp2_with fail
          refine (enOne_any X lo' hi' _ _ (hx.below (B := w.heap.size) (((Below.refl _ _).alloc (Nat.le_refl _) _).trans (hb2.mono (by simp))) hhi') (by omega) hfx).mono ?_
          rintro e w3 ⟨rfl, hb3⟩
          have hz3 := hb3.size
          rw [hC]
          have hb23 := hb2.trans (hb3.mono (by simpa using hz2))
          have x0 : w3.cell? ⟨w.heap.size, 0, none⟩ = some (.string X.s) := (hb23.cell (p := ⟨w.heap.size, 0, none⟩) (by simp)).trans (World.cell?_alloc_new _ _ _ _)
          have x1 : w3.cell? ⟨w.heap.size, 1, none⟩ = some (.int .i64 X.v) := (hb23.cell (p := ⟨w.heap.size, 1, none⟩) (by simp)).trans (World.cell?_alloc_new _ _ _ _)
          have x2 : w3.cell? ⟨w.heap.size, 2, none⟩ = some (.int .i64 X.y) := (hb23.cell (p := ⟨w.heap.size, 2, none⟩) (by simp)).trans (World.cell?_alloc_new _ _ _ _)
          have x3 : w3.cell? ⟨w.heap.size, 3, none⟩ = some (.slice B X.n capx) := (hb23.cell (p := ⟨w.heap.size, 3, none⟩) (by simp)).trans (World.cell?_alloc_new _ _ _ _)
          have hb03 : Below w.heap.size w w3 := ((Below.refl _ _).alloc (Nat.le_refl _) _).trans (hb23.mono (by simp))
          have HB23 := hide hb23
          clear hb23
          go_wp2_with fail
          refine (enFind_any T n X.s lo hi _ _ (hv.below (B := w.heap.size) hb03 hhi) (by first | omega | (simp; done) | (simp; omega)) hn).mono ?_
          rintro e w4 ⟨rfl, hb4⟩
          have hz4 := hb4.size
          rw [hD, ← HK.out]
          have hb04 : Below w.heap.size w w4 := hb03.trans (hb4.mono (by omega))
          have hzd : w4.drew.heap.size = w4.heap.size := rfl
          have HX : Hid (∀ w', Below w4.heap.size w4.drew w' → w'.cell? ⟨w.heap.size, 0, none⟩ = some (.string X.s) ∧ w'.cell? ⟨w.heap.size, 1, none⟩ = some (.int .i64 X.v) ∧ w'.cell? ⟨w.heap.size, 2, none⟩ = some (.int .i64 X.y) ∧ w'.cell? ⟨w.heap.size, 3, none⟩ = some (.slice B X.n capx)) := fun w' hw' => by
            have key : ∀ j v, w3.cell? ⟨w.heap.size, j, none⟩ = some v → w'.cell? ⟨w.heap.size, j, none⟩ = some v := fun j v hj =>
              (hw'.cell (p := ⟨w.heap.size, j, none⟩) (by show w.heap.size < _; omega)).trans ((hb4.cell (p := ⟨w.heap.size, j, none⟩) (by show w.heap.size < _; omega)).trans hj)
            exact ⟨key _ _ x0, key _ _ x1, key _ _ x2, key _ _ x3⟩
          clear x0 x1 x2 x3
          obtain ⟨d, rfl⟩ : ∃ d, n = k + d := ⟨n - k, by omega⟩
          have hfk : tfits T k := ⟨by omega, fun i hi => hf.2 i (by omega)⟩
          have hfd : tfits (fun i => T (k + i)) d := ⟨by omega, fun i hi => hf.2 _ (by omega)⟩
          obtain ⟨ii, hii, iz0, iz1, iz2⟩ := info_parts infoTeam
          have l1 : k ≤ cap := by omega
          have l2 : (k : Int) ≤ (k : Int) + (d : Int) := by omega
          go_wp2_with fail
          by_cases hkd : 0 < k + d
          · obtain ⟨blk, off, dk, rfl, _, _, _⟩ := hv.at_ hhi hkd
            refine wp_region_mix [(0, true), (1, true), (2, true), (4, true), (8, true), (9, true), (10, true), (3, false), (5, false), (6, false), (7, false), (11, false), (12, false), (13, true), (14, true)] (fun w' => Below w4.heap.size w4.drew w') (by kernel_rfl) (by kernel_rfl) (by kernel_rfl) (by kernel_rfl) (Below.refl _ _) ?_
            refine mix_look _ _ rfl rfl (fun w' _ => BigFrame.run_move _ rfl w') ?_
            go_simp
            refine mix_look _ _ rfl rfl (fun w' _ => BigFrame.run_move _ rfl w') ?_
            go_simp
            refine mix_look _ (.slice (some ⟨blk, off, none⟩) k cap) rfl rfl (fun w' _ => (by go_simp)) ?_
            go_simp
            refine mix_look _ (.agg #[.string X.s, .int .i64 X.v, .int .i64 X.y, .slice B X.n capx]) rfl rfl (fun w' hw' => (by obtain ⟨a0, a1, a2, a3⟩ := HX.out w' hw'; go_simp)) ?_
            go_simp
            refine mix_look _ _ rfl rfl (fun w' _ => BigFrame.run_move _ rfl w') ?_
            go_simp
            refine mix_look _ _ rfl rfl (fun w' _ => BigFrame.run_move _ rfl w') ?_
            go_simp
            refine mix_look _ (.slice (if cap = k then some ⟨blk, off, none⟩ else some ⟨blk, off + k * 4, none⟩) d (cap - k)) rfl rfl (fun w' _ => (by go_simp)) ?_
            go_simp
            refine mix_call _ 43 #[.slice (some ⟨blk, off, none⟩) k cap] rfl rfl (by go_simp) ?_
            have hv4 : SlT w4.drew lo hi (.slice (some ⟨blk, off, none⟩) (k + d) cap) (k + d) T := hv.below (B := w.heap.size) (Below.drew hb04) hhi
            refine (enOwnAll_raw T k lo hi _ _ (hv4.take (by omega)) (by simp; omega) hfk (fun i hi => bd_pos HB.out i (by omega))).mono ?_
            rintro e w5 ⟨v5, β, ck, rfl, hr5, hs5, hb5⟩
            have hz5 := hb5.size
            (try (simp at hz5))
            refine ⟨_, rfl, hb5, ?_⟩
            obtain ⟨A5, c5, rfl⟩ := row_form hr5
            go_simp
            refine mix_call _ 44 #[.agg #[.string X.s, .int .i64 X.v, .int .i64 X.y, .slice B X.n capx]] rfl rfl (by go_simp) ?_
            have hb05 : Below w.heap.size w w5 := (Below.drew hb04).trans (hb5.mono (by simp; omega))
            refine (enOwn_any X lo' hi' _ _ (hx.below (B := w.heap.size) hb05 hhi') (by omega) hpX hfx).mono ?_
            rintro e w6 ⟨u, rfl, hou, hgr6, hb6⟩
            have hz6 := hb6.size
            have hb46 := hb5.trans (hb6.mono hz5)
            refine ⟨_, rfl, hb46, ?_⟩
            obtain ⟨Au, cu, rfl, hcu, _⟩ := hou.sl.open_
            go_simp
            refine mix_value _ (.slice (some ⟨w6.heap.size, 0, none⟩) 1 1) (w6.alloc (.cells #[.string X.s, .int .i64 X.v, .int .i64 X.y, .slice Au X.n cu] 27)) rfl rfl (by go_simp) (hb46.alloc (by omega) _) ?_
            go_simp
            have hr6 := (row_below hr5 hb6 (Nat.le_refl _)).alloc (.cells #[.string X.s, .int .i64 X.v, .int .i64 X.y, .slice Au X.n cu] 27)
            obtain ⟨b', b1, b2, b3⟩ := (hou.lf (by omega)).pin hgr6
            have hs6 : Subs w6 w4.drew.heap.size (fun i => if i = k then b' else β i) (fun i => if i = k then .slice Au X.n cu else ck i) (insT T k X) (k + 1) :=
              Subs.snoc (T := insT T k X) (B := w5.heap.size) ((hs5.below hb6 (Nat.le_refl _)).congr (fun i hi => by simp [insT, hi])) (fun i hi => (hs5.1 i hi).2.2) b1 (by simp; omega) b2 (by rw [ins_k]; exact b3)
            have hs6' : Subs (w6.alloc (.cells #[.string X.s, .int .i64 X.v, .int .i64 X.y, .slice Au X.n cu] 27)) w4.drew.heap.size (fun i => if i = k then b' else β i) (fun i => if i = k then .slice Au X.n cu else ck i) (insT T k X) (k + 1) := hs6.below ((Below.refl _ _).alloc (Nat.le_refl _) _) (Nat.le_refl _)
            have hpI : ∀ i, i < k + 1 → 0 < (insT T k X i).n := fun i hi => ins_pos hpX (fun j hj => bd_pos HB.out j hj) (by omega) (by omega)
            obtain ⟨v7, w7, q1, q2, q3, _⟩ := run_append_own (P := Try.prog) (w6.alloc (.cells #[.string X.s, .int .i64 X.v, .int .i64 X.y, .slice Au X.n cu] 27)) w4.drew.heap.size 24 24 27 ii (.agg #[.string ⟨#[]⟩, .int .i64 0, .int .i64 0, .slice none 0 0]) 4 56 Try.underlying24 hii iz0 iz1 iz2 rfl (by decide) _ _ _ hr6 ⟨w6.heap.size, 0, none⟩ 1 1 [.string X.s, .int .i64 X.v, .int .i64 X.y, .slice Au X.n cu] rfl (fun j u hu => by
              rw [Addr.add_lit, Nat.zero_add]
              match j, hu with
              | 0, hu => simp at hu; subst hu; exact World.cell?_alloc_new _ _ _ _
              | 1, hu => simp at hu; subst hu; exact World.cell?_alloc_new _ _ _ _
              | 2, hu => simp at hu; subst hu; exact World.cell?_alloc_new _ _ _ _
              | 3, hu => simp at hu; subst hu; exact World.cell?_alloc_new _ _ _ _) (fun u hu => tm_one hu) (by unfold maxLen; omega) (by omega) (by simp; omega)
            have hb47 : Below w4.heap.size w4.drew w7 := (hb46.alloc (by omega) _).grown q3 (by simp; omega) (fun g hg => by have := (hr6.lt g hg).1; simpa using this)
            have hz7 := q3.size
            simp at hz7
            refine mix_value _ v7 w7 rfl rfl (run_op_append _ _ 24 rfl rfl rfl q1) hb47 ?_
            obtain ⟨A7, c7, rfl⟩ := row_form q2
            go_simp
            have hs7 := hs6'.grown hpI hr6 q3
            rw [rowL_ins] at q2
            refine mix_call _ 43 #[.slice (if cap = k then some ⟨blk, off, none⟩ else some ⟨blk, off + k * 4, none⟩) d (cap - k)] rfl rfl (by go_simp) ?_
            have hv7 : SlT w7 lo hi (.slice (some ⟨blk, off, none⟩) (k + d) cap) (k + d) T := hv4.below hb47 (by omega)
            refine (enOwnAll_raw (fun i => T (k + i)) d lo hi _ _ (hv7.drop (by omega)) (by omega) hfd (fun i hi => bd_pos HB.out _ (by omega))).mono ?_
            rintro e w8 ⟨v8, β8, ck8, rfl, hr8, hs8, hb8⟩
            have hz8 := hb8.size
            refine ⟨_, rfl, hb47.trans (hb8.mono (by omega)), ?_⟩
            obtain ⟨A8, c8, rfl⟩ := row_form hr8
            go_simp
            have hr7' := row_below q2 hb8 (Nat.le_refl _)
            have hs7' := hs7.below hb8 (Nat.le_refl _)
            obtain ⟨v9, w9, p1, p2, p3⟩ := run_append_rows (P := Try.prog) w8 _ _ 24 24 27 ii (.agg #[.string ⟨#[]⟩, .int .i64 0, .int .i64 0, .slice none 0 0]) 4 56 Try.underlying24 hii iz0 iz1 iz2 rfl (by decide) _ _ _ _ _ _ hr7' hr8 (fun u hu => row_one hs8.one hu) (by unfold maxLen; omega) (by omega) (by simp; omega)
            have hb49 : Below w4.heap.size w4.drew w9 := (hb47.trans (hb8.mono (by omega))).grown p3 (by omega) (fun g hg => by have := (hr7'.lt g hg).1; simpa using this)
            refine mix_value _ v9 w9 rfl rfl (run_op_append _ _ 24 rfl rfl rfl p1) hb49 ?_
            obtain ⟨A9, c9, rfl⟩ := row_form p2
            go_simp
            refine mix_look _ _ rfl rfl (fun w' _ => BigFrame.run_assign _ rfl w') ?_
            go_simp
            refine mix_look _ _ rfl rfl (fun w' _ => BigFrame.run_assign _ rfl w') ?_
            go_simp
            have hp2 : ∀ i, i < d → 0 < (T (k + i)).n := fun i hi => bd_pos HB.out _ (by omega)
            have ha := (hs7'.grown hpI hr7' p3).app (hs8.grown hp2 hr7' p3) (by simp; omega) (fun i hi => (hs7.1 i hi).2.2)
            rw [rowL_join] at p2
            have hTT : ∀ i, i < k + 1 + d → (if i < k + 1 then insT T k X i else T (k + (i - (k + 1)))) = insT T k X i := fun i hi => by
              by_cases h : i < k + 1
              · simp only [h, if_true]
              · simp only [h, if_false]
                unfold insT
                rw [if_neg (by omega), if_neg (by omega), show k + (i - (k + 1)) = i - 1 by omega]
            have hbrd := (ha.board (fun i hi => by
              show 0 < (if i < k + 1 then insT T k X i else T (k + (i - (k + 1)))).n
              rw [hTT i hi]
              exact ins_pos hpX (fun j hj => bd_pos HB.out j hj) (by omega) (by omega)) p2).congr hTT
            have HR : Hid (OwnT w9 w.heap.size w9.heap.size (.slice A9 (k + 1 + d) c9) (k + 1 + d) (insT T k X)) := hbrd.mono (by simp; omega) (Nat.le_refl _)
            have hbw : Below w.heap.size w w9 := (Below.drew hb04).trans (hb49.mono (by omega))
            clear hbrd ha q1 q2 q3 p1 p2 p3 hs5 hs6 hs6' hs7 hs7' hs8 hr5 hr6 hr7' hr8 hv4 hv7 hp2 hTT hpI hou b3
            refine wpMix_nil ?_
            go_wp2_with fail
            all_goals
              go_ret2
              rw [HE.out, HN.out, HT.out]
              exact ⟨_, rfl, by rw [show k + d + 1 = k + 1 + d by omega]; exact HR.out, hbw⟩
          · obtain rfl : k = 0 := by omega
            obtain rfl : d = 0 := by omega
            cases A with
            | none =>
                refine wp_region_mix [(0, true), (1, true), (2, true), (4, true), (8, true), (9, true), (10, true), (3, false), (5, false), (6, false), (7, false), (11, false), (12, false), (13, true), (14, true)] (fun w' => Below w4.heap.size w4.drew w') (by kernel_rfl) (by kernel_rfl) (by kernel_rfl) (by kernel_rfl) (Below.refl _ _) ?_
                refine mix_look _ _ rfl rfl (fun w' _ => BigFrame.run_move _ rfl w') ?_
                go_simp
                refine mix_look _ _ rfl rfl (fun w' _ => BigFrame.run_move _ rfl w') ?_
                go_simp
                refine mix_look _ (.slice none 0 cap) rfl rfl (fun w' _ => (by go_simp)) ?_
                go_simp
                refine mix_look _ (.agg #[.string X.s, .int .i64 X.v, .int .i64 X.y, .slice B X.n capx]) rfl rfl (fun w' hw' => (by obtain ⟨a0, a1, a2, a3⟩ := HX.out w' hw'; go_simp)) ?_
                go_simp
                refine mix_look _ _ rfl rfl (fun w' _ => BigFrame.run_move _ rfl w') ?_
                go_simp
                refine mix_look _ _ rfl rfl (fun w' _ => BigFrame.run_move _ rfl w') ?_
                go_simp
                refine mix_look _ (.slice none 0 cap) rfl rfl (fun w' _ => (by go_simp)) ?_
                go_simp
                refine mix_call _ 43 #[.slice none 0 cap] rfl rfl (by go_simp) ?_
                have hv4 : SlT w4.drew lo hi (.slice none (0 + 0) cap) (0 + 0) T := hv.below (B := w.heap.size) (Below.drew hb04) hhi
                refine (enOwnAll_raw T 0 lo hi _ _ (hv4) (by simp; omega) hfk (fun i hi => bd_pos HB.out i (by omega))).mono ?_
                rintro e w5 ⟨v5, β, ck, rfl, hr5, hs5, hb5⟩
                have hz5 := hb5.size
                (try (simp at hz5))
                refine ⟨_, rfl, hb5, ?_⟩
                obtain ⟨A5, c5, rfl⟩ := row_form hr5
                go_simp
                refine mix_call _ 44 #[.agg #[.string X.s, .int .i64 X.v, .int .i64 X.y, .slice B X.n capx]] rfl rfl (by go_simp) ?_
                have hb05 : Below w.heap.size w w5 := (Below.drew hb04).trans (hb5.mono (by simp; omega))
                refine (enOwn_any X lo' hi' _ _ (hx.below (B := w.heap.size) hb05 hhi') (by omega) hpX hfx).mono ?_
                rintro e w6 ⟨u, rfl, hou, hgr6, hb6⟩
                have hz6 := hb6.size
                have hb46 := hb5.trans (hb6.mono hz5)
                refine ⟨_, rfl, hb46, ?_⟩
                obtain ⟨Au, cu, rfl, hcu, _⟩ := hou.sl.open_
                go_simp
                refine mix_value _ (.slice (some ⟨w6.heap.size, 0, none⟩) 1 1) (w6.alloc (.cells #[.string X.s, .int .i64 X.v, .int .i64 X.y, .slice Au X.n cu] 27)) rfl rfl (by go_simp) (hb46.alloc (by omega) _) ?_
                go_simp
                have hr6 := (row_below hr5 hb6 (Nat.le_refl _)).alloc (.cells #[.string X.s, .int .i64 X.v, .int .i64 X.y, .slice Au X.n cu] 27)
                obtain ⟨b', b1, b2, b3⟩ := (hou.lf (by omega)).pin hgr6
                have hs6 : Subs w6 w4.drew.heap.size (fun i => if i = 0 then b' else β i) (fun i => if i = 0 then .slice Au X.n cu else ck i) (insT T 0 X) (0 + 1) :=
                  Subs.snoc (T := insT T 0 X) (B := w5.heap.size) ((hs5.below hb6 (Nat.le_refl _)).congr (fun i hi => by simp [insT, hi])) (fun i hi => (hs5.1 i hi).2.2) b1 (by simp; omega) b2 (by rw [ins_k]; exact b3)
                have hs6' : Subs (w6.alloc (.cells #[.string X.s, .int .i64 X.v, .int .i64 X.y, .slice Au X.n cu] 27)) w4.drew.heap.size (fun i => if i = 0 then b' else β i) (fun i => if i = 0 then .slice Au X.n cu else ck i) (insT T 0 X) (0 + 1) := hs6.below ((Below.refl _ _).alloc (Nat.le_refl _) _) (Nat.le_refl _)
                have hpI : ∀ i, i < 0 + 1 → 0 < (insT T 0 X i).n := fun i hi => ins_pos hpX (fun j hj => bd_pos HB.out j hj) (by omega) (by omega)
                obtain ⟨v7, w7, q1, q2, q3, _⟩ := run_append_own (P := Try.prog) (w6.alloc (.cells #[.string X.s, .int .i64 X.v, .int .i64 X.y, .slice Au X.n cu] 27)) w4.drew.heap.size 24 24 27 ii (.agg #[.string ⟨#[]⟩, .int .i64 0, .int .i64 0, .slice none 0 0]) 4 56 Try.underlying24 hii iz0 iz1 iz2 rfl (by decide) _ _ _ hr6 ⟨w6.heap.size, 0, none⟩ 1 1 [.string X.s, .int .i64 X.v, .int .i64 X.y, .slice Au X.n cu] rfl (fun j u hu => by
                  rw [Addr.add_lit, Nat.zero_add]
                  match j, hu with
                  | 0, hu => simp at hu; subst hu; exact World.cell?_alloc_new _ _ _ _
                  | 1, hu => simp at hu; subst hu; exact World.cell?_alloc_new _ _ _ _
                  | 2, hu => simp at hu; subst hu; exact World.cell?_alloc_new _ _ _ _
                  | 3, hu => simp at hu; subst hu; exact World.cell?_alloc_new _ _ _ _) (fun u hu => tm_one hu) (by unfold maxLen; omega) (by omega) (by simp; omega)
                have hb47 : Below w4.heap.size w4.drew w7 := (hb46.alloc (by omega) _).grown q3 (by simp; omega) (fun g hg => by have := (hr6.lt g hg).1; simpa using this)
                have hz7 := q3.size
                simp at hz7
                refine mix_value _ v7 w7 rfl rfl (run_op_append _ _ 24 rfl rfl rfl q1) hb47 ?_
                obtain ⟨A7, c7, rfl⟩ := row_form q2
                go_simp
                have hs7 := hs6'.grown hpI hr6 q3
                rw [rowL_ins] at q2
                refine mix_call _ 43 #[.slice none 0 cap] rfl rfl (by go_simp) ?_
                have hv7 : SlT w7 lo hi (.slice none (0 + 0) cap) (0 + 0) T := hv4.below hb47 (by omega)
                refine (enOwnAll_raw (fun i => T (0 + i)) 0 lo hi _ _ (hv7.none_) (by omega) hfd (fun i hi => bd_pos HB.out _ (by omega))).mono ?_
                rintro e w8 ⟨v8, β8, ck8, rfl, hr8, hs8, hb8⟩
                have hz8 := hb8.size
                refine ⟨_, rfl, hb47.trans (hb8.mono (by omega)), ?_⟩
                obtain ⟨A8, c8, rfl⟩ := row_form hr8
                go_simp
                have hr7' := row_below q2 hb8 (Nat.le_refl _)
                have hs7' := hs7.below hb8 (Nat.le_refl _)
                obtain ⟨v9, w9, p1, p2, p3⟩ := run_append_rows (P := Try.prog) w8 _ _ 24 24 27 ii (.agg #[.string ⟨#[]⟩, .int .i64 0, .int .i64 0, .slice none 0 0]) 4 56 Try.underlying24 hii iz0 iz1 iz2 rfl (by decide) _ _ _ _ _ _ hr7' hr8 (fun u hu => row_one hs8.one hu) (by unfold maxLen; omega) (by omega) (by simp; omega)
                have hb49 : Below w4.heap.size w4.drew w9 := (hb47.trans (hb8.mono (by omega))).grown p3 (by omega) (fun g hg => by have := (hr7'.lt g hg).1; simpa using this)
                refine mix_value _ v9 w9 rfl rfl (run_op_append _ _ 24 rfl rfl rfl p1) hb49 ?_
                obtain ⟨A9, c9, rfl⟩ := row_form p2
                go_simp
                refine mix_look _ _ rfl rfl (fun w' _ => BigFrame.run_assign _ rfl w') ?_
                go_simp
                refine mix_look _ _ rfl rfl (fun w' _ => BigFrame.run_assign _ rfl w') ?_
                go_simp
                have hp2 : ∀ i, i < 0 → 0 < (T (0 + i)).n := fun i hi => bd_pos HB.out _ (by omega)
                have ha := (hs7'.grown hpI hr7' p3).app (hs8.grown hp2 hr7' p3) (by simp; omega) (fun i hi => (hs7.1 i hi).2.2)
                rw [rowL_join] at p2
                have hTT : ∀ i, i < 0 + 1 + 0 → (if i < 0 + 1 then insT T 0 X i else T (0 + (i - (0 + 1)))) = insT T 0 X i := fun i hi => by
                  by_cases h : i < 0 + 1
                  · simp only [h, if_true]
                  · simp only [h, if_false]
                    unfold insT
                    rw [if_neg (by omega), if_neg (by omega), show 0 + (i - (0 + 1)) = i - 1 by omega]
                have hbrd := (ha.board (fun i hi => by
                  show 0 < (if i < 0 + 1 then insT T 0 X i else T (0 + (i - (0 + 1)))).n
                  rw [hTT i hi]
                  exact ins_pos hpX (fun j hj => bd_pos HB.out j hj) (by omega) (by omega)) p2).congr hTT
                have HR : Hid (OwnT w9 w.heap.size w9.heap.size (.slice A9 (0 + 1 + 0) c9) (0 + 1 + 0) (insT T 0 X)) := hbrd.mono (by simp; omega) (Nat.le_refl _)
                have hbw : Below w.heap.size w w9 := (Below.drew hb04).trans (hb49.mono (by omega))
                clear hbrd ha q1 q2 q3 p1 p2 p3 hs5 hs6 hs6' hs7 hs7' hs8 hr5 hr6 hr7' hr8 hv4 hv7 hp2 hTT hpI hou b3
                refine wpMix_nil ?_
                go_wp2_with fail
                all_goals
                  go_ret2
                  rw [HE.out, HN.out, HT.out]
                  exact ⟨_, rfl, by rw [show 0 + 0 + 1 = 0 + 1 + 0 by omega]; exact HR.out, hbw⟩
            | some a =>
                refine wp_region_mix [(0, true), (1, true), (2, true), (4, true), (8, true), (9, true), (10, true), (3, false), (5, false), (6, false), (7, false), (11, false), (12, false), (13, true), (14, true)] (fun w' => Below w4.heap.size w4.drew w') (by kernel_rfl) (by kernel_rfl) (by kernel_rfl) (by kernel_rfl) (Below.refl _ _) ?_
                refine mix_look _ _ rfl rfl (fun w' _ => BigFrame.run_move _ rfl w') ?_
                go_simp
                refine mix_look _ _ rfl rfl (fun w' _ => BigFrame.run_move _ rfl w') ?_
                go_simp
                refine mix_look _ (.slice (some a) 0 cap) rfl rfl (fun w' _ => (by go_simp)) ?_
                go_simp
                refine mix_look _ (.agg #[.string X.s, .int .i64 X.v, .int .i64 X.y, .slice B X.n capx]) rfl rfl (fun w' hw' => (by obtain ⟨a0, a1, a2, a3⟩ := HX.out w' hw'; go_simp)) ?_
                go_simp
                refine mix_look _ _ rfl rfl (fun w' _ => BigFrame.run_move _ rfl w') ?_
                go_simp
                refine mix_look _ _ rfl rfl (fun w' _ => BigFrame.run_move _ rfl w') ?_
                go_simp
                refine mix_look _ (.slice (some a) 0 cap) rfl rfl (fun w' _ => (by go_simp)) ?_
                go_simp
                refine mix_call _ 43 #[.slice (some a) 0 cap] rfl rfl (by go_simp) ?_
                have hv4 : SlT w4.drew lo hi (.slice (some a) (0 + 0) cap) (0 + 0) T := hv.below (B := w.heap.size) (Below.drew hb04) hhi
                refine (enOwnAll_raw T 0 lo hi _ _ (hv4) (by simp; omega) hfk (fun i hi => bd_pos HB.out i (by omega))).mono ?_
                rintro e w5 ⟨v5, β, ck, rfl, hr5, hs5, hb5⟩
                have hz5 := hb5.size
                (try (simp at hz5))
                refine ⟨_, rfl, hb5, ?_⟩
                obtain ⟨A5, c5, rfl⟩ := row_form hr5
                go_simp
                refine mix_call _ 44 #[.agg #[.string X.s, .int .i64 X.v, .int .i64 X.y, .slice B X.n capx]] rfl rfl (by go_simp) ?_
                have hb05 : Below w.heap.size w w5 := (Below.drew hb04).trans (hb5.mono (by simp; omega))
                refine (enOwn_any X lo' hi' _ _ (hx.below (B := w.heap.size) hb05 hhi') (by omega) hpX hfx).mono ?_
                rintro e w6 ⟨u, rfl, hou, hgr6, hb6⟩
                have hz6 := hb6.size
                have hb46 := hb5.trans (hb6.mono hz5)
                refine ⟨_, rfl, hb46, ?_⟩
                obtain ⟨Au, cu, rfl, hcu, _⟩ := hou.sl.open_
                go_simp
                refine mix_value _ (.slice (some ⟨w6.heap.size, 0, none⟩) 1 1) (w6.alloc (.cells #[.string X.s, .int .i64 X.v, .int .i64 X.y, .slice Au X.n cu] 27)) rfl rfl (by go_simp) (hb46.alloc (by omega) _) ?_
                go_simp
                have hr6 := (row_below hr5 hb6 (Nat.le_refl _)).alloc (.cells #[.string X.s, .int .i64 X.v, .int .i64 X.y, .slice Au X.n cu] 27)
                obtain ⟨b', b1, b2, b3⟩ := (hou.lf (by omega)).pin hgr6
                have hs6 : Subs w6 w4.drew.heap.size (fun i => if i = 0 then b' else β i) (fun i => if i = 0 then .slice Au X.n cu else ck i) (insT T 0 X) (0 + 1) :=
                  Subs.snoc (T := insT T 0 X) (B := w5.heap.size) ((hs5.below hb6 (Nat.le_refl _)).congr (fun i hi => by simp [insT, hi])) (fun i hi => (hs5.1 i hi).2.2) b1 (by simp; omega) b2 (by rw [ins_k]; exact b3)
                have hs6' : Subs (w6.alloc (.cells #[.string X.s, .int .i64 X.v, .int .i64 X.y, .slice Au X.n cu] 27)) w4.drew.heap.size (fun i => if i = 0 then b' else β i) (fun i => if i = 0 then .slice Au X.n cu else ck i) (insT T 0 X) (0 + 1) := hs6.below ((Below.refl _ _).alloc (Nat.le_refl _) _) (Nat.le_refl _)
                have hpI : ∀ i, i < 0 + 1 → 0 < (insT T 0 X i).n := fun i hi => ins_pos hpX (fun j hj => bd_pos HB.out j hj) (by omega) (by omega)
                obtain ⟨v7, w7, q1, q2, q3, _⟩ := run_append_own (P := Try.prog) (w6.alloc (.cells #[.string X.s, .int .i64 X.v, .int .i64 X.y, .slice Au X.n cu] 27)) w4.drew.heap.size 24 24 27 ii (.agg #[.string ⟨#[]⟩, .int .i64 0, .int .i64 0, .slice none 0 0]) 4 56 Try.underlying24 hii iz0 iz1 iz2 rfl (by decide) _ _ _ hr6 ⟨w6.heap.size, 0, none⟩ 1 1 [.string X.s, .int .i64 X.v, .int .i64 X.y, .slice Au X.n cu] rfl (fun j u hu => by
                  rw [Addr.add_lit, Nat.zero_add]
                  match j, hu with
                  | 0, hu => simp at hu; subst hu; exact World.cell?_alloc_new _ _ _ _
                  | 1, hu => simp at hu; subst hu; exact World.cell?_alloc_new _ _ _ _
                  | 2, hu => simp at hu; subst hu; exact World.cell?_alloc_new _ _ _ _
                  | 3, hu => simp at hu; subst hu; exact World.cell?_alloc_new _ _ _ _) (fun u hu => tm_one hu) (by unfold maxLen; omega) (by omega) (by simp; omega)
                have hb47 : Below w4.heap.size w4.drew w7 := (hb46.alloc (by omega) _).grown q3 (by simp; omega) (fun g hg => by have := (hr6.lt g hg).1; simpa using this)
                have hz7 := q3.size
                simp at hz7
                refine mix_value _ v7 w7 rfl rfl (run_op_append _ _ 24 rfl rfl rfl q1) hb47 ?_
                obtain ⟨A7, c7, rfl⟩ := row_form q2
                go_simp
                have hs7 := hs6'.grown hpI hr6 q3
                rw [rowL_ins] at q2
                refine mix_call _ 43 #[.slice (some a) 0 cap] rfl rfl (by go_simp) ?_
                have hv7 : SlT w7 lo hi (.slice (some a) (0 + 0) cap) (0 + 0) T := hv4.below hb47 (by omega)
                refine (enOwnAll_raw (fun i => T (0 + i)) 0 lo hi _ _ (hv7.none_) (by omega) hfd (fun i hi => bd_pos HB.out _ (by omega))).mono ?_
                rintro e w8 ⟨v8, β8, ck8, rfl, hr8, hs8, hb8⟩
                have hz8 := hb8.size
                refine ⟨_, rfl, hb47.trans (hb8.mono (by omega)), ?_⟩
                obtain ⟨A8, c8, rfl⟩ := row_form hr8
                go_simp
                have hr7' := row_below q2 hb8 (Nat.le_refl _)
                have hs7' := hs7.below hb8 (Nat.le_refl _)
                obtain ⟨v9, w9, p1, p2, p3⟩ := run_append_rows (P := Try.prog) w8 _ _ 24 24 27 ii (.agg #[.string ⟨#[]⟩, .int .i64 0, .int .i64 0, .slice none 0 0]) 4 56 Try.underlying24 hii iz0 iz1 iz2 rfl (by decide) _ _ _ _ _ _ hr7' hr8 (fun u hu => row_one hs8.one hu) (by unfold maxLen; omega) (by omega) (by simp; omega)
                have hb49 : Below w4.heap.size w4.drew w9 := (hb47.trans (hb8.mono (by omega))).grown p3 (by omega) (fun g hg => by have := (hr7'.lt g hg).1; simpa using this)
                refine mix_value _ v9 w9 rfl rfl (run_op_append _ _ 24 rfl rfl rfl p1) hb49 ?_
                obtain ⟨A9, c9, rfl⟩ := row_form p2
                go_simp
                refine mix_look _ _ rfl rfl (fun w' _ => BigFrame.run_assign _ rfl w') ?_
                go_simp
                refine mix_look _ _ rfl rfl (fun w' _ => BigFrame.run_assign _ rfl w') ?_
                go_simp
                have hp2 : ∀ i, i < 0 → 0 < (T (0 + i)).n := fun i hi => bd_pos HB.out _ (by omega)
                have ha := (hs7'.grown hpI hr7' p3).app (hs8.grown hp2 hr7' p3) (by simp; omega) (fun i hi => (hs7.1 i hi).2.2)
                rw [rowL_join] at p2
                have hTT : ∀ i, i < 0 + 1 + 0 → (if i < 0 + 1 then insT T 0 X i else T (0 + (i - (0 + 1)))) = insT T 0 X i := fun i hi => by
                  by_cases h : i < 0 + 1
                  · simp only [h, if_true]
                  · simp only [h, if_false]
                    unfold insT
                    rw [if_neg (by omega), if_neg (by omega), show 0 + (i - (0 + 1)) = i - 1 by omega]
                have hbrd := (ha.board (fun i hi => by
                  show 0 < (if i < 0 + 1 then insT T 0 X i else T (0 + (i - (0 + 1)))).n
                  rw [hTT i hi]
                  exact ins_pos hpX (fun j hj => bd_pos HB.out j hj) (by omega) (by omega)) p2).congr hTT
                have HR : Hid (OwnT w9 w.heap.size w9.heap.size (.slice A9 (0 + 1 + 0) c9) (0 + 1 + 0) (insT T 0 X)) := hbrd.mono (by simp; omega) (Nat.le_refl _)
                have hbw : Below w.heap.size w w9 := (Below.drew hb04).trans (hb49.mono (by omega))
                clear hbrd ha q1 q2 q3 p1 p2 p3 hs5 hs6 hs6' hs7 hs7' hs8 hr5 hr6 hr7' hr8 hv4 hv7 hp2 hTT hpI hou b3
                refine wpMix_nil ?_
                go_wp2_with fail
                all_goals
                  go_ret2
                  rw [HE.out, HN.out, HT.out]
                  exact ⟨_, rfl, by rw [show 0 + 0 + 1 = 0 + 1 + 0 by omega]; exact HR.out, hbw⟩

end Go.Proofs.Ytnfhgnibjebmlaa
