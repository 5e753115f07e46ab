/-
  Texts of this proof, one behind the other (part 14).
-/
import Derived.Test.YtnfhgnibjebmlaaQ13
/-
  Walks: one more check for a team of a board: the reference.-/
namespace Go.Proofs.Ytnfhgnibjebmlaa
set_option linter.unusedVariables false
set_option linter.unusedSimpArgs false
open Go.RowKit

set_option maxRecDepth 100000 in
set_option maxHeartbeats 3200000 in
theorem AddCheck_spec (T : Nat → Tm) (n : Nat) (s : ByteArray) (m b : Int) (lo hi : Nat) (v : Value) (w : World) (hv : SlT w lo hi v n T) (hhi : hi ≤ w.heap.size) (hf : tfits T n) (hms : s.size ≤ maxLen) :
    Calls Try.prog 26 #[v, .string s, .int .i64 m, .int .i64 b] w (BrdRes (adT T n s m b) (adN T n s m b) (adOk T n s m b) w) := by
  obtain ⟨A, cap, rfl, hcap⟩ := hv.open_
  have hn : n ≤ 1048576 := hf.1
  cases hB : bdB T n with
  | false =>
    have HF : Hid (adOk T n s m b = false) := by show _ = _; simp [adOk, hB]
    have HN : Hid (adN T n s m b = 0) := by show _ = _; rw [adN, HF.out]; rfl
    go_enter Try.func26, Try.ntmps26
    go_wp2_with fail
    refine (enFind_any T n s lo hi _ _ (hv.below (B := w.heap.size) (by repeat (first | (with_reducible exact Below.refl _ _) | (with_reducible refine below_ov ?_ ?_) | (with_reducible refine Below.setCell ?_ ?_ _) | (with_reducible refine Below.alloc ?_ ?_ _) | (with_reducible refine Below.drew ?_) | (with_reducible refine below_drewN ?_ _) | (refine Below.trans ?_ (Below.mono ‹Below _ _ _› (by first | omega | (simp; done) | (simp; omega)))) | exact Below.refl _ _ | omega | (focus (simp; done)) | (focus (simp; omega)))) hhi) hhi hn).mono ?_
    rintro e w1 ⟨rfl, hb1⟩
    have hz1 := hb1.size
    go_wp2_with fail
    refine (enGood_any T n lo hi _ _ (hv.below (B := w.heap.size) (by repeat (first | (with_reducible exact Below.refl _ _) | (with_reducible refine below_ov ?_ ?_) | (with_reducible refine Below.setCell ?_ ?_ _) | (with_reducible refine Below.alloc ?_ ?_ _) | (with_reducible refine Below.drew ?_) | (with_reducible refine below_drewN ?_ _) | (refine Below.trans ?_ (Below.mono ‹Below _ _ _› (by first | omega | (simp; done) | (simp; omega)))) | exact Below.refl _ _ | omega | (focus (simp; done)) | (focus (simp; omega)))) hhi) (by first | omega | (simp; done) | (simp; omega)) hf).mono ?_
    rintro e w2 ⟨rfl, hb2⟩
    have hz2 := hb2.size
    rw [hB]
    go_wp2_with fail
    go_ret2
    rw [HF.out]
    exact brd_nil HN.out (by repeat (first | (with_reducible exact Below.refl _ _) | (with_reducible refine below_ov ?_ ?_) | (with_reducible refine Below.setCell ?_ ?_ _) | (with_reducible refine Below.alloc ?_ ?_ _) | (with_reducible refine Below.drew ?_) | (with_reducible refine below_drewN ?_ _) | (refine Below.trans ?_ (Below.mono ‹Below _ _ _› (by first | omega | (simp; done) | (simp; omega)))) | exact Below.refl _ _ | omega | (focus (simp; done)) | (focus (simp; omega))))
  | true =>
    have HB := hide hB
    cases hF : fdB T n s with
    | false =>
      have HF : Hid (adOk T n s m b = false) := by show _ = _; simp [adOk, hF]
      have HN : Hid (adN T n s m b = 0) := by show _ = _; rw [adN, HF.out]; rfl
      go_enter Try.func26, Try.ntmps26
      go_wp2_with fail
      refine (enFind_any T n s lo hi _ _ (hv.below (B := w.heap.size) (by repeat (first | (with_reducible exact Below.refl _ _) | (with_reducible refine below_ov ?_ ?_) | (with_reducible refine Below.setCell ?_ ?_ _) | (with_reducible refine Below.alloc ?_ ?_ _) | (with_reducible refine Below.drew ?_) | (with_reducible refine below_drewN ?_ _) | (refine Below.trans ?_ (Below.mono ‹Below _ _ _› (by first | omega | (simp; done) | (simp; omega)))) | exact Below.refl _ _ | omega | (focus (simp; done)) | (focus (simp; omega)))) hhi) hhi hn).mono ?_
      rintro e w1 ⟨rfl, hb1⟩
      have hz1 := hb1.size
      rw [hF]
      go_wp2_with fail
      refine (enGood_any T n lo hi _ _ (hv.below (B := w.heap.size) (by repeat (first | (with_reducible exact Below.refl _ _) | (with_reducible refine below_ov ?_ ?_) | (with_reducible refine Below.setCell ?_ ?_ _) | (with_reducible refine Below.alloc ?_ ?_ _) | (with_reducible refine Below.drew ?_) | (with_reducible refine below_drewN ?_ _) | (refine Below.trans ?_ (Below.mono ‹Below _ _ _› (by first | omega | (simp; done) | (simp; omega)))) | exact Below.refl _ _ | omega | (focus (simp; done)) | (focus (simp; omega)))) hhi) (by first | omega | (simp; done) | (simp; omega)) hf).mono ?_
      rintro e w2 ⟨rfl, hb2⟩
      have hz2 := hb2.size
      rw [hB]
      go_wp2_with fail
      go_ret2
      rw [HF.out]
      exact brd_nil HN.out (by repeat (first | (with_reducible exact Below.refl _ _) | (with_reducible refine below_ov ?_ ?_) | (with_reducible refine Below.setCell ?_ ?_ _) | (with_reducible refine Below.alloc ?_ ?_ _) | (with_reducible refine Below.drew ?_) | (with_reducible refine below_drewN ?_ _) | (refine Below.trans ?_ (Below.mono ‹Below _ _ _› (by first | omega | (simp; done) | (simp; omega)))) | exact Below.refl _ _ | omega | (focus (simp; done)) | (focus (simp; omega))))
    | true =>
      have hkn := fdB_lt hF
      obtain ⟨k, hk⟩ : ∃ k, k = fdK T n s := ⟨_, rfl⟩
      rw [← hk] at hkn
      have HK := hide hk
      have HT : Hid (adT T n s m b = adW T k m b) := by show _ = _; rw [adT, ← hk]
      have HE : Hid (adOk T n s m b = adC (T k) m b) := by show _ = _; rw [adOk, HB.out, hF, ← hk]; rfl
      have hn6 := (bd_facts HB.out).1
      have hkp := bd_pos HB.out k hkn
      have hk20 := (tm_facts ((bd_facts HB.out).2 k hkn).1).2.2.2.1
      obtain ⟨ii, hii, iz0, iz1, iz2⟩ := info_parts infoChk
      clear hk
      go_enter Try.func26, Try.ntmps26
      go_wp2_with fail
      refine (enFind_any T _ s lo hi _ _ (hv.below (B := w.heap.size) (by repeat (first | (with_reducible exact Below.refl _ _) | (with_reducible refine below_ov ?_ ?_) | (with_reducible refine Below.setCell ?_ ?_ _) | (with_reducible refine Below.alloc ?_ ?_ _) | (with_reducible refine Below.drew ?_) | (with_reducible refine below_drewN ?_ _) | (refine Below.trans ?_ (Below.mono ‹Below _ _ _› (by first | omega | (simp; done) | (simp; omega)))) | exact Below.refl _ _ | omega | (focus (simp; done)) | (focus (simp; omega)))) hhi) hhi hn).mono ?_
      rintro e w1 ⟨rfl, hb1⟩
      have hz1 := hb1.size
      rw [hF, ← HK.out]
      go_wp2_with fail
      refine (enGood_any T _ lo hi _ _ (hv.below (B := w.heap.size) (by repeat (first | (with_reducible exact Below.refl _ _) | (with_reducible refine below_ov ?_ ?_) | (with_reducible refine Below.setCell ?_ ?_ _) | (with_reducible refine Below.alloc ?_ ?_ _) | (with_reducible refine Below.drew ?_) | (with_reducible refine below_drewN ?_ _) | (refine Below.trans ?_ (Below.mono ‹Below _ _ _› (by first | omega | (simp; done) | (simp; omega)))) | exact Below.refl _ _ | omega | (focus (simp; done)) | (focus (simp; omega)))) hhi) (by first | omega | (simp; done) | (simp; omega)) hf).mono ?_
      rintro e w2 ⟨rfl, hb2⟩
      have hz2 := hb2.size
      rw [hB]
      go_wp2_with fail
      refine (enOwnAll_any T _ lo hi _ _ (hv.below (B := w.heap.size) (by repeat (first | (with_reducible exact Below.refl _ _) | (with_reducible refine below_ov ?_ ?_) | (with_reducible refine Below.setCell ?_ ?_ _) | (with_reducible refine Below.alloc ?_ ?_ _) | (with_reducible refine Below.drew ?_) | (with_reducible refine below_drewN ?_ _) | (refine Below.trans ?_ (Below.mono ‹Below _ _ _› (by first | omega | (simp; done) | (simp; omega)))) | exact Below.refl _ _ | omega | (focus (simp; done)) | (focus (simp; omega)))) hhi) (by first | omega | (simp; done) | (simp; omega)) hf (bd_pos HB.out)).mono ?_
      rintro e w3 ⟨v3, rfl, ⟨γ, β, ck, hx, hin⟩, hb3⟩
      have hz3 := hb3.size
      obtain ⟨A3, c3, rfl, hc3, hA3⟩ := hx.own.open_
      obtain ⟨g, rfl, g1, g2⟩ := hA3 (by omega)
      obtain rfl : γ = g := by omega
      have hg := hin.1 (by omega)
      have cc : ∀ j, j < 4 → w3.cell? ⟨γ, k * 4 + j, none⟩ = some (tC T ck k j) ∧ w3.frozen? ⟨γ, k * 4 + j, none⟩ = false := fun j hj => by
        obtain ⟨_, hfz, c⟩ := hx.own.cell (by omega) (o := k * 4 + j) (by omega)
        have := c (by omega)
        rw [show (k * 4 + j) / 4 = k by omega, show (k * 4 + j) % 4 = j by omega] at this
        exact ⟨this, hfz⟩
      obtain ⟨Ak, cpk, ek, hck, hAk⟩ := (hx.sub k hkn).open_
      obtain ⟨gk, rfl, gk1, gk2⟩ := hAk hkp
      obtain rfl : β k = gk := by omega
      have c0 : w3.cell? ⟨γ, k * 4, none⟩ = some (.string (T k).s) := (cc 0 (by omega)).1
      have c1 : w3.cell? ⟨γ, k * 4 + 1, none⟩ = some (.int .i64 (T k).v) := (cc 1 (by omega)).1
      have c2 : w3.cell? ⟨γ, k * 4 + 2, none⟩ = some (.int .i64 (T k).y) := (cc 2 (by omega)).1
      have c3' : w3.cell? ⟨γ, k * 4 + 3, none⟩ = some (.slice (some ⟨β k, 0, none⟩) (T k).n cpk) := (cc 3 (by omega)).1.trans (by rw [show tC T ck k 3 = ck k from rfl, ek])
      have hrk := (hx.sub k hkn).rowL hkp (by omega)
      rw [ek] at hrk
      have HX := hide hx
      have HIn := hide hin
      have EK := hide ek
      have HRK := hide hrk
      have hgk := hin.2 k hkn
      clear hx hin hA3 ek hrk cc
      go_wp2_with (at_builtin; refine wpList_append_two _ rfl _ _ 25 rfl (β k) 56 ii (.agg #[.int .i64 0, .int .i64 0]) 2 16 Try.underlying25 hii iz0 iz1 iz2 rfl (by decide) _ _ _ rfl ((HRK.out.alloc _).alloc _) ⟨w3.heap.size + 1, 0, none⟩ 1 1 [.int .i64 m, .int .i64 b] rfl rfl ?_ (fun u hu => int2_one hu) (by omega) ?_ ?_ ?_)
      · intro i u hu
        match i, hu with
        | 0, hu => simp at hu; subst hu; simp [go_sem, Addr.add]
        | 1, hu => simp at hu; subst hu; simp [go_sem, Addr.add]
      · unfold maxLen; omega
      · omega
      intro v4 w4 hcase
      rw [chk_snoc] at hcase
      obtain ⟨W3, hW3⟩ : ∃ W3, W3 = (w3.alloc (.cells #[.string (T k).s, .int .i64 (T k).v, .int .i64 (T k).y, .slice (some ⟨β k, 0, none⟩) (T k).n cpk] 27)).alloc (.cells #[.int .i64 m, .int .i64 b] 56) := ⟨_, rfl⟩
      rw [← hW3] at hcase
      have hWz : W3.heap.size = w3.heap.size + 1 + 1 := by rw [hW3]; simp
      have hWo : ∀ x, x < w3.heap.size → W3.heap[x]? = w3.heap[x]? := fun x hx => by
        rw [hW3, Deep.blk_alloc_lt _ _ _ (by simp; omega)]
        exact Deep.blk_alloc_lt _ _ _ hx
      have hWb : Below w2.heap.size w3 W3 := by
        rw [hW3]
        exact ((Below.refl _ _).alloc (by omega) _).alloc (by simp; omega) _
      have hfin : Hid (∃ b', b' ≠ γ ∧ b' ≠ w3.heap.size ∧ b' < w4.heap.size ∧ (∀ i, i < n → i ≠ k → β i ≠ b') ∧ w2.heap.size ≤ b' ∧ OwnL w4 b' (b' + 1) 56 2 v4 ((T k).n + 1) (((T k).n + 1) * 2) (fun o => iiC (adTm (T k) m b).m (adTm (T k) m b).b (o / 2) (o % 2)) ∧ (∀ x, x < W3.heap.size → x ≠ β k → w4.heap[x]? = W3.heap[x]?) ∧ w3.heap.size + 1 < w4.heap.size ∧ Below w2.heap.size w3 w4) := by
        show ∃ _, _
        rcases hcase with ⟨r0, r1, r2⟩ | ⟨r1, r2⟩
        · have hz := r2.size
          refine ⟨β k, HX.out.ne k hkn, by omega, by omega, fun i hi hik => HX.out.inj i k hi hkn hik, by omega, row_at r1 (by omega) r0, fun x hx hxk => ?_, by omega, ?_⟩
          · exact r2.block x hx (fun e => hxk (by injection e))
          · exact hWb.grown r2 (by omega) (fun g hg => by injection hg with hg; have hg : β k = g := hg; omega)
        · have hz := r2.size
          rcases r1.2 with ⟨_, h0⟩ | ⟨b', cap', cur, rfl, hb1, _⟩
          · omega
          · have hlt := r1.lt b' rfl
            refine ⟨b', by omega, by omega, hlt.2, fun i hi _ => by have := HIn.out.2 i hi; omega, by omega, row_at r1 (by omega) rfl, fun x hx hxk => ?_, by omega, ?_⟩
            · exact r2.block x hx (fun e => by cases e)
            · exact hWb.grown r2 (by omega) (fun g hg => by cases hg)
      clear hcase
      obtain ⟨b', q1, q1', q2, q3, q4, q5, q6, q7, q8⟩ := hfin.out
      obtain ⟨A4, c4, rfl, _, _⟩ := q5.open_
      have hbx : ∀ j, w4.cell? ⟨w3.heap.size, j, none⟩ = W3.cell? ⟨w3.heap.size, j, none⟩ := fun j => World.cell?_of_block (a := ⟨w3.heap.size, j, none⟩) (q6 w3.heap.size (by omega) (by omega))
      have hbf : ∀ j, w4.frozen? ⟨w3.heap.size, j, none⟩ = W3.frozen? ⟨w3.heap.size, j, none⟩ := fun j => World.frozen?_of_block (a := ⟨w3.heap.size, j, none⟩) (q6 w3.heap.size (by omega) (by omega))
      have x0 : w4.cell? ⟨w3.heap.size, 0, none⟩ = some (.string (T k).s) := by rw [hbx, hW3]; exact (World.cell?_alloc_lt _ _ _ (by simp)).trans (World.cell?_alloc_new _ _ _ _)
      have x1 : w4.cell? ⟨w3.heap.size, 1, none⟩ = some (.int .i64 (T k).v) := by rw [hbx, hW3]; exact (World.cell?_alloc_lt _ _ _ (by simp)).trans (World.cell?_alloc_new _ _ _ _)
      have x2 : w4.cell? ⟨w3.heap.size, 2, none⟩ = some (.int .i64 (T k).y) := by rw [hbx, hW3]; exact (World.cell?_alloc_lt _ _ _ (by simp)).trans (World.cell?_alloc_new _ _ _ _)
      have x3 : w4.cell? ⟨w3.heap.size, 3, none⟩ = some (.slice (some ⟨β k, 0, none⟩) (T k).n cpk) := by rw [hbx, hW3]; exact (World.cell?_alloc_lt _ _ _ (by simp)).trans (World.cell?_alloc_new _ _ _ _)
      have xf : ∀ j, w4.frozen? ⟨w3.heap.size, j, none⟩ = false := fun j => by rw [hbf, hW3]; simp [go_sem]
      have q9 : γ ≠ w3.heap.size := by omega
      have ho4 := HX.out.own.keep1 ((q6 γ (by omega) (HX.out.ne k hkn).symm).trans (hWo γ hg.2))
      have ho5 := ho4.keep1 (Deep.blk_setCell_other w4 ⟨w3.heap.size, 3, none⟩ (.slice A4 ((T k).n + 1) c4) γ q9)
      obtain ⟨⟨u0, hu0⟩, hf0, _⟩ := ho5.cell (by omega) (o := k * 4) (by omega)
      have s0 := ho5.set (o := k * 4) (by omega) (.string (T k).s)
      obtain ⟨⟨u1, hu1⟩, hf1, _⟩ := s0.cell (by omega) (o := k * 4 + 1) (by omega)
      have s1 := s0.set (o := k * 4 + 1) (by omega) (.int .i64 (T k).v)
      obtain ⟨⟨u2, hu2⟩, hf2, _⟩ := s1.cell (by omega) (o := k * 4 + 2) (by omega)
      have s2 := s1.set (o := k * 4 + 2) (by omega) (.int .i64 (T k).y)
      obtain ⟨⟨u3, hu3⟩, hf3, _⟩ := s2.cell (by omega) (o := k * 4 + 3) (by omega)
      have s3 := s2.set (o := k * 4 + 3) (by omega) (.slice A4 ((T k).n + 1) c4)
      obtain ⟨W5, hW5⟩ : ∃ W5, W5 = ((((w4.setCell ⟨w3.heap.size, 3, none⟩ (.slice A4 ((T k).n + 1) c4)).setCell ⟨γ, k * 4, none⟩ (.string (T k).s)).setCell ⟨γ, k * 4 + 1, none⟩ (.int .i64 (T k).v)).setCell ⟨γ, k * 4 + 2, none⟩ (.int .i64 (T k).y)).setCell ⟨γ, k * 4 + 3, none⟩ (.slice A4 ((T k).n + 1) c4) := ⟨_, rfl⟩
      rw [← hW5] at s3
      have hoth : ∀ x, x ≠ γ → x ≠ w3.heap.size → W5.heap[x]? = w4.heap[x]? := fun x h1 h2 => by
        rw [hW5, Deep.blk_setCell_other _ _ _ _ h1, Deep.blk_setCell_other _ _ _ _ h1, Deep.blk_setCell_other _ _ _ _ h1, Deep.blk_setCell_other _ _ _ _ h1, Deep.blk_setCell_other _ _ _ _ h2]
      have hs5 : OwnL W5 γ (γ + 1) 27 4 (.slice (some ⟨γ, 0, none⟩) n c3) n (n * 4) (fun o => if o = k * 4 + 3 then .slice A4 ((T k).n + 1) c4 else tC T ck (o / 4) (o % 4)) := s3.congr fun o ho => by
        by_cases h3 : o = k * 4 + 3
        · simp only [h3, if_true]
        · by_cases h2 : o = k * 4 + 2
          · subst h2
            have e1 : (k * 4 + 2) / 4 = k := by omega
            have e2 : (k * 4 + 2) % 4 = 2 := by omega
            simp [tC, e1, e2]
          · by_cases h1 : o = k * 4 + 1
            · subst h1
              have e1 : (k * 4 + 1) / 4 = k := by omega
              have e2 : (k * 4 + 1) % 4 = 1 := by omega
              simp [tC, e1, e2]
            · by_cases h0 : o = k * 4
              · subst h0
                have e1 : (k * 4) / 4 = k := by omega
                have e2 : (k * 4) % 4 = 0 := by omega
                simp [tC, e1, e2]
              · simp only [h0, h1, h2, h3, if_false]
      have hu5 := q5.keep1 (hoth b' q1 q1')
      have hxd := HX.out.added (W := w4) (m := m) (b := b) hkn hs5 hu5 q1 q3 fun i hi hik => by
        have hi1 := HIn.out.2 i hi
        rw [hoth _ (HX.out.ne i hi) (by omega), q6 _ (by omega) (HX.out.inj i k hi hkn hik), hWo _ hi1.2]
      have hz5 : W5.heap.size = w4.heap.size := by rw [hW5]; simp [World.setCell]
      have hOT : OwnT W5 w2.heap.size W5.heap.size (.slice (some ⟨γ, 0, none⟩) n c3) n (adW T k m b) := ⟨γ, _, _, hxd, fun _ => by omega, fun i hi => by
        have := HIn.out.2 i hi
        by_cases hik : i = k
        · simp only [hik, if_true]; omega
        · simp only [hik, if_false]; omega⟩
      have hb5 : Below w.heap.size w W5 := by
        have hb03 : Below w.heap.size w w3 := (by repeat (first | (with_reducible exact Below.refl _ _) | (with_reducible refine below_ov ?_ ?_) | (with_reducible refine Below.setCell ?_ ?_ _) | (with_reducible refine Below.alloc ?_ ?_ _) | (with_reducible refine Below.drew ?_) | (with_reducible refine below_drewN ?_ _) | (refine Below.trans ?_ (Below.mono ‹Below _ _ _› (by first | omega | (simp; done) | (simp; omega)))) | exact Below.refl _ _ | omega | (focus (simp; done)) | (focus (simp; omega))))
        have hb04 := hb03.trans (q8.mono (by omega))
        rw [hW5]
        exact (by repeat (first | (with_reducible exact Below.refl _ _) | (with_reducible refine below_ov ?_ ?_) | (with_reducible refine Below.setCell ?_ ?_ _) | (with_reducible refine Below.alloc ?_ ?_ _) | (with_reducible refine Below.drew ?_) | (with_reducible refine below_drewN ?_ _) | (refine Below.trans ?_ (Below.mono ‹Below _ _ _› (by first | omega | (simp; done) | (simp; omega)))) | exact Below.refl _ _ | omega | (focus (simp; done)) | (focus (simp; omega))))
      have HOT := hide hOT
      have HW5 := hide hW5
      clear s0 s1 s2 s3 ho4 ho5 hs5 hu5 hxd hoth hOT q3 q5 q6 hbx hbf hW3 hWo hWb hW5
      have hfa : tfits (adW T k m b) n := ⟨hn, fun i hi => by
        unfold adW
        split
        · rename_i e
          subst e
          exact ⟨(hf.2 _ hi).1, by show (T _).n + 1 ≤ _; omega⟩
        · exact hf.2 i hi⟩
      have HBD := hide (adW_bd (m := m) (b := b) HB.out hkn)
      go_wp2_with fail
      obtain rfl := HW5.out
      refine (enGood_any (adW T k m b) n _ _ _ _ HOT.out.sl (Nat.le_refl _) hfa).mono ?_
      rintro e w5 ⟨rfl, hb6⟩
      have hz6 := hb6.size
      rw [HBD.out]
      cases hC : adC (T k) m b with
      | false =>
        have HN : Hid (adN T n s m b = 0) := by show _ = _; rw [adN, HE.out, hC]; rfl
        go_wp2_with fail
        go_ret2
        rw [HE.out, hC]
        exact brd_nil HN.out (hb5.trans (hb6.mono (by omega)))
      | true =>
        have HN : Hid (adN T n s m b = n) := by show _ = _; rw [adN, HE.out, hC]; rfl
        go_wp2_with fail
        go_ret2
        rw [HE.out, hC, HN.out, HT.out]
        exact ⟨_, rfl, (HOT.out.below hb6 (Nat.le_refl _)).mono (by omega) (by omega), hb5.trans (hb6.mono (by omega))⟩

end Go.Proofs.Ytnfhgnibjebmlaa

/-
  Walks: the text of a board: the reference.-/
namespace Go.Proofs.Ytnfhgnibjebmlaa
set_option linter.unusedVariables false
set_option linter.unusedSimpArgs false
open Go.RowKit

set_option maxRecDepth 100000 in
set_option maxHeartbeats 1600000 in
theorem BoardText_spec (T : Nat → Tm) (n : Nat) (m : Int) (lo hi : Nat) (v : Value) (w : World) (hv : SlT w lo hi v n T) (hhi : hi ≤ w.heap.size) (hf : tfits T n) :
    Calls Try.prog 15 #[v, .int .i64 m] w fun e w' => e = .returned (.tuple #[.string (btR T n m), .bool (btOk T n m)]) ∧ Below w.heap.size w w' := by
  obtain ⟨A, cap, rfl, hcap⟩ := hv.open_
  cases hB : bdB T n with
  | false =>
    have HF : Hid (btOk T n m = false) := by show _ = _; simp [btOk, hB]
    have HS : Hid (btR T n m = ⟨#[]⟩) := by show _ = _; rw [btR, HF.out]; rfl
    go_enter Try.func15, Try.ntmps15
    go_wp2_with (go_at_call 40; refine (enGood_any T n lo hi _ _ hv hhi hf).mono ?_; rintro e w1 ⟨rfl, hb1⟩; have hz1 := hb1.size; (try (simp at hz1)); obtain ⟨hcw1, hfw1⟩ := bcell hb1; (try (have hy1 : w.heap.size < w1.heap.size := by omega)); (try (have hyy1 : w.heap.size + 1 < w1.heap.size := by omega)); (try (have hyyy1 : w.heap.size + 1 + 1 < w1.heap.size := by omega)))
    go_ret2
    exact ⟨ret_sb HS.out.symm HF.out.symm, (by repeat (first | (with_reducible exact Below.refl _ _) | (with_reducible refine below_ov ?_ ?_) | (with_reducible refine Below.setCell ?_ ?_ _) | (with_reducible refine Below.alloc ?_ ?_ _) | (with_reducible refine Below.drew ?_) | (with_reducible refine below_drewN ?_ _) | (refine Below.trans ?_ (Below.mono ‹Below _ _ _› (by first | omega | (simp; done) | (simp; omega)))) | exact Below.refl _ _ | omega | (focus (simp; done)) | (focus (simp; omega))))⟩
  | true =>
    have HB := hide hB
    go_enter Try.func15, Try.ntmps15
    go_wp2_with fail
    refine (enGood_any T n lo hi _ _ (hv.below (B := w.heap.size) (by repeat (first | (with_reducible exact Below.refl _ _) | (with_reducible refine below_ov ?_ ?_) | (with_reducible refine Below.setCell ?_ ?_ _) | (with_reducible refine Below.alloc ?_ ?_ _) | (with_reducible refine Below.drew ?_) | (with_reducible refine below_drewN ?_ _) | (refine Below.trans ?_ (Below.mono ‹Below _ _ _› (by first | omega | (simp; done) | (simp; omega)))) | exact Below.refl _ _ | omega | (focus (simp; done)) | (focus (simp; omega)))) hhi) hhi hf).mono ?_
    rintro e w1 ⟨rfl, hb1⟩
    have hz1 := hb1.size
    rw [hB]
    go_wp2_with fail
    refine (enMinute_any _ _).mono ?_
    rintro e w2 ⟨rfl, rfl⟩
    cases hI : inB m 0 600 with
    | false =>
      have HF : Hid (btOk T n m = false) := by show _ = _; simp [btOk, hI]
      have HS : Hid (btR T n m = ⟨#[]⟩) := by show _ = _; rw [btR, HF.out]; rfl
      go_wp2_with fail
      go_ret2
      exact ⟨ret_sb HS.out.symm HF.out.symm, (by repeat (first | (with_reducible exact Below.refl _ _) | (with_reducible refine below_ov ?_ ?_) | (with_reducible refine Below.setCell ?_ ?_ _) | (with_reducible refine Below.alloc ?_ ?_ _) | (with_reducible refine Below.drew ?_) | (with_reducible refine below_drewN ?_ _) | (refine Below.trans ?_ (Below.mono ‹Below _ _ _› (by first | omega | (simp; done) | (simp; omega)))) | exact Below.refl _ _ | omega | (focus (simp; done)) | (focus (simp; omega))))⟩
    | true =>
      have HE : Hid (btOk T n m = true) := by show _ = _; simp [btOk, hI, HB.out]
      have HS : Hid (btR T n m = btS T m n) := by show _ = _; rw [btR, if_pos HE.out]
      have hm := inB_iff.1 hI
      go_wp2_with fail
      have hn : n ≤ 1048576 := hf.1
      go_loopw [6, 19] (fun a i wr => ∃ k : Nat, k ≤ n ∧ i = .int .i64 k ∧ a = .string (btS T m k) ∧ Below w.heap.size w wr) (fun _ i _ => n - (intOf i).toNat)
      case atStart => exact ⟨0, by omega, rfl, rfl, (by repeat (first | (with_reducible exact Below.refl _ _) | (with_reducible refine below_ov ?_ ?_) | (with_reducible refine Below.setCell ?_ ?_ _) | (with_reducible refine Below.alloc ?_ ?_ _) | (with_reducible refine Below.drew ?_) | (with_reducible refine below_drewN ?_ _) | (refine Below.trans ?_ (Below.mono ‹Below _ _ _› (by first | omega | (simp; done) | (simp; omega)))) | exact Below.refl _ _ | omega | (focus (simp; done)) | (focus (simp; omega))))⟩
      case round =>
        obtain ⟨k, hk, rfl, rfl, hb⟩ := hrel
        have hzr := hb.size
        by_cases hkn : k < n
        · obtain ⟨blk, off, ck, rfl, h1, h2, h3⟩ := (hv.below hb hhi).at_ (by omega) (by omega)
          have t0 := hide (h3 k hkn)
          have q0 := (h3 k hkn).c0
          have qa := (h3 k hkn).c1
          have qb := (h3 k hkn).c2
          have qc := (h3 k hkn).c3
          obtain ⟨Ak, ckk, ek, _, _⟩ := t0.out.sl.open_
          have sk := t0.out.sl
          rw [ek] at qc sk
          have SK := hide sk
          clear ek sk
          have HK := hide ((bd_facts HB.out).2 k hkn).1
          have l0 : blk < wr.heap.size := by omega
          clear h3
          have s1 := nameB_size HK.out
          have s2 := stB_size (T k) m
          have s3 := btS_size (m := m) (fun i hi => ((bd_facts HB.out).2 i hi).1) k (by omega)
          have hq := (bd_facts HB.out).1
          have b1 : ¬ (9223372036854775807 < (T k).s.size + 1) := by omega
          have b2 : ¬ (9223372036854775807 < (T k).s.size + 1 + (stB (T k) m).size) := by omega
          have b3 : ¬ (9223372036854775807 < (T k).s.size + 1 + (stB (T k) m).size + 1) := by omega
          have b4 : ¬ (9223372036854775807 < (btS T m k).size + ((T k).s.size + 1 + (stB (T k) m).size + 1)) := by omega
          have i1 : ¬ ((9223372036854775807 : Int) < (T k).s.size + 1) := by omega
          have i2 : ¬ ((9223372036854775807 : Int) < (T k).s.size + 1 + (stB (T k) m).size) := by omega
          have i3 : ¬ ((9223372036854775807 : Int) < (T k).s.size + 1 + (stB (T k) m).size + 1) := by omega
          have i4 : ¬ ((9223372036854775807 : Int) < (btS T m k).size + ((T k).s.size + 1 + (stB (T k) m).size + 1)) := by omega
          go_wp2_with fail
          (refine wp_region_below_lit (by kernel_rfl) (by kernel_rfl) ?_; (repeat (first | go_big_quiet_step ((go_at_call 52; exact quiet_ov (enState_any (T k) m lo hi _ _ (SK.out.below (B := wr.heap.size) (by repeat (first | (with_reducible exact Below.refl _ _) | (with_reducible refine below_ov ?_ ?_) | (with_reducible refine Below.setCell ?_ ?_ _) | (with_reducible refine Below.alloc ?_ ?_ _) | (with_reducible refine Below.drew ?_) | (with_reducible refine below_drewN ?_ _) | (refine Below.trans ?_ (Below.mono ‹Below _ _ _› (by first | omega | (simp; done) | (simp; omega)))) | exact Below.refl _ _ | omega | (focus (simp; done)) | (focus (simp; omega)))) (by omega)) (by simp [ov]; omega) HK.out hm.1 hm.2))) | quiet_step ((go_at_call 52; exact quiet_ov (enState_any (T k) m lo hi _ _ (SK.out.below (B := wr.heap.size) (by repeat (first | (with_reducible exact Below.refl _ _) | (with_reducible refine below_ov ?_ ?_) | (with_reducible refine Below.setCell ?_ ?_ _) | (with_reducible refine Below.alloc ?_ ?_ _) | (with_reducible refine Below.drew ?_) | (with_reducible refine below_drewN ?_ _) | (refine Below.trans ?_ (Below.mono ‹Below _ _ _› (by first | omega | (simp; done) | (simp; omega)))) | exact Below.refl _ _ | omega | (focus (simp; done)) | (focus (simp; omega)))) (by omega)) (by simp [ov]; omega) HK.out hm.1 hm.2))))); refine wpQuiet_nil ?_; intro w2 hb2; have hz2 := hb2.size; (try (simp at hz2)); obtain ⟨hcw2, hfw2⟩ := bcell hb2; (try (have hy2 : w.heap.size < w2.heap.size := by omega)); (try (have hyy2 : w.heap.size + 1 < w2.heap.size := by omega)))
          all_goals go_wp2
          go_roundw
          case rel => exact ⟨k + 1, by omega, by go_num, rfl, (by repeat (first | (with_reducible exact Below.refl _ _) | (with_reducible refine below_ov ?_ ?_) | (with_reducible refine Below.setCell ?_ ?_ _) | (with_reducible refine Below.alloc ?_ ?_ _) | (with_reducible refine Below.drew ?_) | (with_reducible refine below_drewN ?_ _) | (refine Below.trans ?_ (Below.mono ‹Below _ _ _› (by first | omega | (simp; done) | (simp; omega)))) | exact Below.refl _ _ | omega | (focus (simp; done)) | (focus (simp; omega))))⟩
          case measure => simp [intOf]; omega
        · obtain rfl : k = n := by omega
          go_wp2_with fail
          go_ret2
          exact ⟨ret_sb HS.out.symm HE.out.symm, (by repeat (first | (with_reducible exact Below.refl _ _) | (with_reducible refine below_ov ?_ ?_) | (with_reducible refine Below.setCell ?_ ?_ _) | (with_reducible refine Below.alloc ?_ ?_ _) | (with_reducible refine Below.drew ?_) | (with_reducible refine below_drewN ?_ _) | (refine Below.trans ?_ (Below.mono ‹Below _ _ _› (by first | omega | (simp; done) | (simp; omega)))) | exact Below.refl _ _ | omega | (focus (simp; done)) | (focus (simp; omega))))⟩

end Go.Proofs.Ytnfhgnibjebmlaa
