/-
  Walks: a team leaves: the reference.
-/
import Derived.Test.YtpakjmiallhgnaaWLeave
import Derived.Test.YtpakjmiallhgnaaMix
import Derived.Test.YtpakjmiallhgnaaWJoin
import Derived.BigRegion
namespace Go.Proofs.Ytpakjmiallhgnaa
set_option linter.unusedVariables false
set_option linter.unusedSimpArgs false
open Go.RowKit

section
variable {w w' : World} {lo hi n cap b off : Nat} {T : Nat → Tm}
/-- The first k of a board; the rest of it. -/
theorem SlT.take (h : SlT w lo hi (.slice (some ⟨b, off, none⟩) n cap) n T) {k : Nat} (hk : k ≤ n) : SlT w lo hi (.slice (some ⟨b, off, none⟩) k cap) k T := by
  obtain ⟨ck, ⟨A, c, he, hc, hA⟩, h2⟩ := h
  injection he with e1 _ e3
  subst e1 e3
  exact ⟨ck, ⟨_, _, rfl, by omega, fun h0 => by
    obtain ⟨b', o', a1, a2, a3, a4⟩ := hA (by omega)
    exact ⟨b', o', a1, a2, a3, fun i j hi hj => a4 i j (by omega) hj⟩⟩, fun i hi => h2 i (by omega)⟩
theorem SlT.drop (h : SlT w lo hi (.slice (some ⟨b, off, none⟩) n cap) n T) {k d : Nat} (hk : k + d = n) : SlT w lo hi (.slice (if cap = k then some ⟨b, off, none⟩ else some ⟨b, off + k * 4, none⟩) d (cap - k)) d (fun i => T (k + i)) := by
  obtain ⟨ck, ⟨A, c, he, hc, hA⟩, h2⟩ := h
  injection he with e1 _ e3
  subst e1 e3
  refine ⟨fun i => ck (k + i), ⟨_, _, rfl, by omega, fun h0 => ?_⟩, fun i hi => h2 _ (by omega)⟩
  obtain ⟨b', o', a1, a2, a3, a4⟩ := hA (by omega)
  injection a1 with a1
  injection a1 with x1 x2
  subst x1 x2
  refine ⟨b, off + k * 4, by rw [if_neg (by omega)], a2, a3, fun i j hi hj => ?_⟩
  have := a4 (k + i) j (by omega) hj
  rw [show off + (k + i) * 4 + j = off + k * 4 + i * 4 + j by omega] at this
  exact this
end
set_option maxRecDepth 100000 in
set_option maxHeartbeats 3200000 in
theorem LeaveTeam_spec (T : Nat → Tm) (n : Nat) (s : ByteArray) (lo hi : Nat) (v : Value) (w : World) (hv : SlT w lo hi v n T) (hhi : hi ≤ w.heap.size) (hf : tfits T n) (hms : s.size ≤ maxLen) :
    Calls Try.prog 17 #[v, .string s] w (BrdRes (lvT T n s) (lvN T n s) (lvOk T n s) w) := by
  obtain ⟨A, cap, rfl, hcap⟩ := hv.open_
  have hn : n ≤ 1048576 := hf.1
  cases hB : bdB T n with
  | false =>
    have HF : Hid (lvOk T n s = false) := by show _ = _; simp [lvOk, hB]
    have HN : Hid (lvN T n s = 0) := by show _ = _; rw [lvN, HF.out]; rfl
    go_enter Try.func17, Try.ntmps17
    go_wp2_with fail
    refine (enFind_any T n s lo hi _ _ (hv.below (B := w.heap.size) (by repeat (first | (with_reducible exact Below.refl _ _) | (with_reducible refine below_ov ?_ ?_) | (with_reducible refine Below.setCell ?_ ?_ _) | (with_reducible refine Below.alloc ?_ ?_ _) | (with_reducible refine Below.drew ?_) | (with_reducible refine below_drewN ?_ _) | (refine Below.trans ?_ (Below.mono ‹Below _ _ _› (by first | omega | (simp; done) | (simp; omega)))) | exact Below.refl _ _ | omega | (focus (simp; done)) | (focus (simp; omega)))) hhi) hhi hn).mono ?_
    rintro e w1 ⟨rfl, hb1⟩
    have hz1 := hb1.size
    go_wp2_with fail
    refine (enGood_any T n lo hi _ _ (hv.below (B := w.heap.size) (by repeat (first | (with_reducible exact Below.refl _ _) | (with_reducible refine below_ov ?_ ?_) | (with_reducible refine Below.setCell ?_ ?_ _) | (with_reducible refine Below.alloc ?_ ?_ _) | (with_reducible refine Below.drew ?_) | (with_reducible refine below_drewN ?_ _) | (refine Below.trans ?_ (Below.mono ‹Below _ _ _› (by first | omega | (simp; done) | (simp; omega)))) | exact Below.refl _ _ | omega | (focus (simp; done)) | (focus (simp; omega)))) hhi) (by first | omega | (simp; done) | (simp; omega)) hf).mono ?_
    rintro e w2 ⟨rfl, hb2⟩
    have hz2 := hb2.size
    rw [hB]
    go_wp2_with fail
    go_ret2
    rw [HF.out]
    exact brd_nil HN.out (by repeat (first | (with_reducible exact Below.refl _ _) | (with_reducible refine below_ov ?_ ?_) | (with_reducible refine Below.setCell ?_ ?_ _) | (with_reducible refine Below.alloc ?_ ?_ _) | (with_reducible refine Below.drew ?_) | (with_reducible refine below_drewN ?_ _) | (refine Below.trans ?_ (Below.mono ‹Below _ _ _› (by first | omega | (simp; done) | (simp; omega)))) | exact Below.refl _ _ | omega | (focus (simp; done)) | (focus (simp; omega))))
  | true =>
    have HB := hide hB
    cases hF : fdB T n s with
    | false =>
      have HF : Hid (lvOk T n s = false) := by show _ = _; simp [lvOk, hF]
      have HN : Hid (lvN T n s = 0) := by show _ = _; rw [lvN, HF.out]; rfl
      go_enter Try.func17, Try.ntmps17
      go_wp2_with fail
      refine (enFind_any T n s lo hi _ _ (hv.below (B := w.heap.size) (by repeat (first | (with_reducible exact Below.refl _ _) | (with_reducible refine below_ov ?_ ?_) | (with_reducible refine Below.setCell ?_ ?_ _) | (with_reducible refine Below.alloc ?_ ?_ _) | (with_reducible refine Below.drew ?_) | (with_reducible refine below_drewN ?_ _) | (refine Below.trans ?_ (Below.mono ‹Below _ _ _› (by first | omega | (simp; done) | (simp; omega)))) | exact Below.refl _ _ | omega | (focus (simp; done)) | (focus (simp; omega)))) hhi) hhi hn).mono ?_
      rintro e w1 ⟨rfl, hb1⟩
      have hz1 := hb1.size
      rw [hF]
      go_wp2_with fail
      refine (enGood_any T n lo hi _ _ (hv.below (B := w.heap.size) (by repeat (first | (with_reducible exact Below.refl _ _) | (with_reducible refine below_ov ?_ ?_) | (with_reducible refine Below.setCell ?_ ?_ _) | (with_reducible refine Below.alloc ?_ ?_ _) | (with_reducible refine Below.drew ?_) | (with_reducible refine below_drewN ?_ _) | (refine Below.trans ?_ (Below.mono ‹Below _ _ _› (by first | omega | (simp; done) | (simp; omega)))) | exact Below.refl _ _ | omega | (focus (simp; done)) | (focus (simp; omega)))) hhi) (by first | omega | (simp; done) | (simp; omega)) hf).mono ?_
      rintro e w2 ⟨rfl, hb2⟩
      have hz2 := hb2.size
      rw [hB]
      go_wp2_with fail
      go_ret2
      rw [HF.out]
      exact brd_nil HN.out (by repeat (first | (with_reducible exact Below.refl _ _) | (with_reducible refine below_ov ?_ ?_) | (with_reducible refine Below.setCell ?_ ?_ _) | (with_reducible refine Below.alloc ?_ ?_ _) | (with_reducible refine Below.drew ?_) | (with_reducible refine below_drewN ?_ _) | (refine Below.trans ?_ (Below.mono ‹Below _ _ _› (by first | omega | (simp; done) | (simp; omega)))) | exact Below.refl _ _ | omega | (focus (simp; done)) | (focus (simp; omega))))
    | true =>
      have HE : Hid (lvOk T n s = true) := by show _ = _; simp [lvOk, hF, HB.out]
      have hkn := fdB_lt hF
      obtain ⟨k, hk⟩ : ∃ k, k = fdK T n s := ⟨_, rfl⟩
      rw [← hk] at hkn
      obtain ⟨d, rfl⟩ : ∃ d, n = k + d + 1 := ⟨n - 1 - k, by omega⟩
      have HN : Hid (lvN T (k + d + 1) s = k + d) := by show _ = _; rw [lvN, HE.out]; simp
      have HT : Hid (lvT T (k + d + 1) s = fun i => T (skp k i)) := by show _ = _; funext i; rw [lvT, ← hk]
      have hn6 := (bd_facts HB.out).1
      have HK := hide hk
      obtain ⟨blk, off, dk, rfl, _, _, _⟩ := hv.at_ hhi (by omega)
      clear hk
      go_enter Try.func17, Try.ntmps17
      go_wp2_with fail
      refine (enFind_any T _ s lo hi _ _ (hv.below (B := w.heap.size) (by repeat (first | (with_reducible exact Below.refl _ _) | (with_reducible refine below_ov ?_ ?_) | (with_reducible refine Below.setCell ?_ ?_ _) | (with_reducible refine Below.alloc ?_ ?_ _) | (with_reducible refine Below.drew ?_) | (with_reducible refine below_drewN ?_ _) | (refine Below.trans ?_ (Below.mono ‹Below _ _ _› (by first | omega | (simp; done) | (simp; omega)))) | exact Below.refl _ _ | omega | (focus (simp; done)) | (focus (simp; omega)))) hhi) hhi hn).mono ?_
      rintro e w1 ⟨rfl, hb1⟩
      have hz1 := hb1.size
      rw [hF, ← HK.out]
      go_wp2_with fail
      refine (enGood_any T _ lo hi _ _ (hv.below (B := w.heap.size) (by repeat (first | (with_reducible exact Below.refl _ _) | (with_reducible refine below_ov ?_ ?_) | (with_reducible refine Below.setCell ?_ ?_ _) | (with_reducible refine Below.alloc ?_ ?_ _) | (with_reducible refine Below.drew ?_) | (with_reducible refine below_drewN ?_ _) | (refine Below.trans ?_ (Below.mono ‹Below _ _ _› (by first | omega | (simp; done) | (simp; omega)))) | exact Below.refl _ _ | omega | (focus (simp; done)) | (focus (simp; omega)))) hhi) (by first | omega | (simp; done) | (simp; omega)) hf).mono ?_
      rintro e w2 ⟨rfl, hb2⟩
      have hz2 := hb2.size
      rw [hB]
      go_wp2_with fail
      have l1 : k ≤ cap := by omega
      have l2 : k + 1 ≤ cap := by omega
      have l5 : (k : Int) + 1 ≤ (k : Int) + (d : Int) + 1 := by omega
      have l6 : (0 : Int) ≤ (k : Int) + 1 := by omega
      have hw1 : IntKind.i64.wrap ((k : Int) + 1) = (k : Int) + 1 := by rw [IntKind.wrap_i64]; omega
      obtain ⟨ii, hii, iz0, iz1, iz2⟩ := info_parts infoTeam
      have hfk : tfits T k := ⟨by omega, fun i hi => hf.2 i (by omega)⟩
      have hfd : tfits (fun i => T (k + 1 + i)) d := ⟨by omega, fun i hi => hf.2 _ (by omega)⟩
      refine wp_region_mix [(0, true), (1, true), (2, true), (4, true), (5, true), (6, true), (7, true), (3, false), (8, false), (9, false), (10, true), (11, true)] (fun _ => True) (by kernel_rfl) (by kernel_rfl) (by kernel_rfl) (by kernel_rfl) trivial ?_
      refine mix_look _ _ rfl rfl (fun w' _ => BigFrame.run_move _ rfl w') ?_
      go_simp
      refine mix_look _ _ rfl rfl (fun w' _ => BigFrame.run_move _ rfl w') ?_
      go_simp
      refine mix_look _ (.slice (some ⟨blk, off, none⟩) k cap) rfl rfl (fun w' _ => (by go_simp)) ?_
      go_simp
      refine mix_look _ _ rfl rfl (fun w' _ => BigFrame.run_move _ rfl w') ?_
      go_simp
      refine mix_look _ _ rfl rfl (fun w' _ => BigFrame.run_move _ rfl w') ?_
      go_simp
      refine mix_look _ (.int .i64 ((k : Int) + 1)) rfl rfl (fun w' _ => (by go_simp)) ?_
      go_simp
      refine mix_look _ (.slice (if cap = k + 1 then some ⟨blk, off, none⟩ else some ⟨blk, off + (k + 1) * 4, none⟩) d (cap - (k + 1))) rfl rfl (fun w' _ => (by go_simp)) ?_
      go_simp
      refine mix_call _ 62 #[.slice (some ⟨blk, off, none⟩) k cap] rfl rfl (by go_simp) ?_
      have hv2 : SlT w2.drew lo hi (.slice (some ⟨blk, off, none⟩) (k + d + 1) cap) (k + d + 1) T := hv.below (B := w.heap.size) (by repeat (first | (with_reducible exact Below.refl _ _) | (with_reducible refine below_ov ?_ ?_) | (with_reducible refine Below.setCell ?_ ?_ _) | (with_reducible refine Below.alloc ?_ ?_ _) | (with_reducible refine Below.drew ?_) | (with_reducible refine below_drewN ?_ _) | (refine Below.trans ?_ (Below.mono ‹Below _ _ _› (by first | omega | (simp; done) | (simp; omega)))) | exact Below.refl _ _ | omega | (focus (simp; done)) | (focus (simp; omega)))) hhi
      refine (enOwnAll_raw T k lo hi _ _ (hv2.take (by omega)) (by simp; omega) hfk (fun i hi => bd_pos HB.out i (by omega))).mono ?_
      rintro e w3 ⟨v3, β3, ck3, rfl, hr3, hs3, hb3⟩
      have hz3 := hb3.size
      (try (simp at hz3))
      refine ⟨_, rfl, trivial, ?_⟩
      obtain ⟨A3, c3, rfl⟩ := row_form hr3
      go_simp
      refine mix_call _ 62 #[.slice (if cap = k + 1 then some ⟨blk, off, none⟩ else some ⟨blk, off + (k + 1) * 4, none⟩) d (cap - (k + 1))] rfl rfl (by go_simp) ?_
      have hv3 : SlT w3 lo hi (.slice (some ⟨blk, off, none⟩) (k + d + 1) cap) (k + d + 1) T := hv2.below hb3 (by simp; omega)
      refine (enOwnAll_raw (fun i => T (k + 1 + i)) d lo hi _ _ (hv3.drop (by omega)) (by omega) hfd (fun i hi => bd_pos HB.out _ (by omega))).mono ?_
      rintro e w4 ⟨v4, β4, ck4, rfl, hr4, hs4, hb4⟩
      have hz4 := hb4.size
      refine ⟨_, rfl, trivial, ?_⟩
      obtain ⟨A4, c4, rfl⟩ := row_form hr4
      go_simp
      have hr3' := row_below hr3 hb4 (Nat.le_refl _)
      have hs3' := hs3.below hb4 (Nat.le_refl _)
      obtain ⟨v5, w5, q1, q2, q3⟩ := run_append_rows (P := Try.prog) w4 _ _ 24 24 40 ii (.agg #[.string ⟨#[]⟩, .int .i64 0, .int .i64 0, .slice none 0 0]) 4 56 Try.underlying24 hii iz0 iz1 iz2 rfl (by decide) _ _ _ _ _ _ hr3' hr4 (fun u hu => row_one hs4.one hu) (by unfold maxLen; omega) (by omega) (by simp; omega)
      refine mix_value _ v5 w5 rfl rfl (run_op_append _ _ 24 rfl rfl rfl q1) trivial ?_
      obtain ⟨A5, c5, rfl⟩ := row_form q2
      go_simp
      refine mix_look _ _ rfl rfl (fun w' _ => BigFrame.run_assign _ rfl w') ?_
      go_simp
      refine mix_look _ _ rfl rfl (fun w' _ => BigFrame.run_assign _ rfl w') ?_
      go_simp
      have hp1 : ∀ i, i < k → 0 < (T i).n := fun i hi => bd_pos HB.out i (by omega)
      have hp2 : ∀ i, i < d → 0 < (T (k + 1 + i)).n := fun i hi => bd_pos HB.out _ (by omega)
      have ha := (hs3'.grown hp1 hr3' q3).app (hs4.grown hp2 hr3' q3) (by simp; omega) (fun i hi => (hs3.1 i hi).2.2)
      rw [rowL_join] at q2
      have hTT : ∀ i, i < k + d → (if i < k then T i else T (k + 1 + (i - k))) = T (skp k i) := fun i hi => by
        unfold skp
        split
        · rfl
        · rw [show k + 1 + (i - k) = i + 1 by omega]
      have hbrd := (ha.board (fun i hi => by
        show 0 < (if i < k then T i else T (k + 1 + (i - k))).n
        rw [hTT i hi]
        exact bd_pos HB.out _ (skp_le hi)) q2).congr hTT
      have hb04 : Below w.heap.size w w4 := (by repeat (first | (with_reducible exact Below.refl _ _) | (with_reducible refine below_ov ?_ ?_) | (with_reducible refine Below.setCell ?_ ?_ _) | (with_reducible refine Below.alloc ?_ ?_ _) | (with_reducible refine Below.drew ?_) | (with_reducible refine below_drewN ?_ _) | (refine Below.trans ?_ (Below.mono ‹Below _ _ _› (by first | omega | (simp; done) | (simp; omega)))) | exact Below.refl _ _ | omega | (focus (simp; done)) | (focus (simp; omega))))
      have hb05 : Below w.heap.size w w5 := hb04.grown q3 (by omega) fun g hg => by
        have := (hr3'.lt g hg).1
        simp at this
        omega
      have HR : Hid (OwnT w5 w.heap.size w5.heap.size (.slice A5 (k + d) c5) (k + d) (fun i => T (skp k i))) := hbrd.mono (by simp; omega) (Nat.le_refl _)
      clear hbrd ha q1 q2 q3 hs3 hs4 hs3' hr3 hr4 hr3' hv2 hv3 hp1 hp2 hTT
      refine wpMix_nil ?_
      go_wp2_with fail
      all_goals
        go_ret2
        rw [HE.out, HN.out, HT.out]
        exact ⟨_, rfl, HR.out, hb05⟩

end Go.Proofs.Ytpakjmiallhgnaa
