/-
  Walks: filling cylinders from a bank: the reference.
-/
import Derived.Test.YteoolhoncgaapaaWRefill
import Derived.Deep.RegionWith
namespace Go.Proofs.Yteoolhoncgaapaa
set_option linter.unusedVariables false
set_option linter.unusedSimpArgs false
open Go.RowKit

theorem aft_min {V B u : Int} (hv : 0 ≤ V) (h0 : 0 ≤ B) (h1 : B ≤ 330) (h : u ≤ lit V B) : min B ((down V (lit V B - u) 330 : Nat) : Int) = aftN V B u := by
  rw [aftN, if_pos h, ← down_min (n := B.toNat) (N := 330) hv (by omega) (by omega)]
  omega
set_option maxRecDepth 100000 in
set_option maxHeartbeats 1600000 in
theorem RefillsFrom_spec (V B : Int) (v b : Nat → Int) (n : Nat) (bar : Int) (lo hi : Nat) (x : Value) (w : World) (hx : Sl w lo hi 2 x n (iiC v b)) (hhi : hi ≤ w.heap.size) (hn : n ≤ 4611686018427387904) :
    Calls Try.prog 7 #[.agg #[.int .i64 V, .int .i64 B], x, .int .i64 bar] w fun e w' => e = .returned (.tuple #[.int .i64 (refC V B v b n bar), .agg #[.int .i64 (refV V B v b n bar), .int .i64 (refP V B v b n bar)], .bool (refOk V B v b n bar)]) ∧ Below w.heap.size w w' := by
  obtain ⟨A, cap, rfl, hcap, hA⟩ := hx.open_
  cases hc1_0 : cylB V B with
  | false =>
    have HF : Hid (refOk V B v b n bar = false) := by
      show refOk V B v b n bar = false
      simp only [refOk, Bool.and_eq_false_iff, decide_eq_false_iff_not]
      first | (left; left; left; assumption) | (left; left; right; have := of_decide_eq_false ‹decide ((n : Int) ≤ 10) = false›; omega) | (right; assumption)
    have HR := hide (ref_no HF.out)
    go_enter Try.func7, Try.ntmps7
    go_wp2_with (first | (go_at_call 38; refine (cyGood_any _ _ _).mono ?_; rintro e w1 ⟨rfl, hb1⟩; have hz1 := hb1.size; (try (simp at hz1)); obtain ⟨hcw1, hfw1⟩ := bcell hb1; (try (have hy1 : w.heap.size < w1.heap.size := by omega)); (try (have hyy1 : w.heap.size + 1 < w1.heap.size := by omega)); (try (have hyyy1 : w.heap.size + 1 + 1 < w1.heap.size := by omega))) | (go_at_call 39; refine (l1In_any _ _ _ _).mono ?_; rintro e w' ⟨rfl, rfl⟩))
    obtain ⟨b1, b2, b3⟩ := HR.out
    rw [b1, b2, b3, HF.out]
    exact bodyPost_ret (v := .tuple #[.int .i64 0, .agg #[.int .i64 0, .int .i64 0], .bool false]) (by simp [results, Try.results7, go_sem, *]) rfl ⟨rfl, (by repeat (first | (with_reducible exact Below.refl _ _) | (with_reducible refine below_ov ?_ ?_) | (with_reducible refine Below.setCell ?_ ?_ _) | (with_reducible refine Below.alloc ?_ ?_ _) | (with_reducible refine Below.drew ?_) | (with_reducible refine below_drewN ?_ _) | (refine Below.trans ?_ (Below.mono ‹Below _ _ _› (by first | omega | (simp; done) | (simp; omega)))) | exact Below.refl _ _ | omega | (focus (simp; done)) | (focus (simp; omega))))⟩
  | true =>
    obtain ⟨⟨hc1_0l, hc1_0r⟩, hc1_0s, hc1_0t⟩ := cylB_iff.1 hc1_0
    cases hc1_1 : decide ((n : Int) ≤ 10) with
    | false =>
      have hc1_1l := of_decide_eq_false hc1_1
      have HF : Hid (refOk V B v b n bar = false) := by
        show refOk V B v b n bar = false
        simp only [refOk, Bool.and_eq_false_iff, decide_eq_false_iff_not]
        first | (left; left; left; assumption) | (left; left; right; have := of_decide_eq_false ‹decide ((n : Int) ≤ 10) = false›; omega) | (right; assumption)
      have HR := hide (ref_no HF.out)
      go_enter Try.func7, Try.ntmps7
      go_wp2_with (first | (go_at_call 38; refine (cyGood_any _ _ _).mono ?_; rintro e w1 ⟨rfl, hb1⟩; have hz1 := hb1.size; (try (simp at hz1)); obtain ⟨hcw1, hfw1⟩ := bcell hb1; (try (have hy1 : w.heap.size < w1.heap.size := by omega)); (try (have hyy1 : w.heap.size + 1 < w1.heap.size := by omega)); (try (have hyyy1 : w.heap.size + 1 + 1 < w1.heap.size := by omega))) | (go_at_call 39; refine (l1In_any _ _ _ _).mono ?_; rintro e w' ⟨rfl, rfl⟩))
      obtain ⟨b1, b2, b3⟩ := HR.out
      rw [b1, b2, b3, HF.out]
      exact bodyPost_ret (v := .tuple #[.int .i64 0, .agg #[.int .i64 0, .int .i64 0], .bool false]) (by simp [results, Try.results7, go_sem, *]) rfl ⟨rfl, (by repeat (first | (with_reducible exact Below.refl _ _) | (with_reducible refine below_ov ?_ ?_) | (with_reducible refine Below.setCell ?_ ?_ _) | (with_reducible refine Below.alloc ?_ ?_ _) | (with_reducible refine Below.drew ?_) | (with_reducible refine below_drewN ?_ _) | (refine Below.trans ?_ (Below.mono ‹Below _ _ _› (by first | omega | (simp; done) | (simp; omega)))) | exact Below.refl _ _ | omega | (focus (simp; done)) | (focus (simp; omega))))⟩
    | true =>
      have hc1_1l := of_decide_eq_true hc1_1
      cases hc1_2 : inB bar 1 330 with
      | false =>
        have HF : Hid (refOk V B v b n bar = false) := by
          show refOk V B v b n bar = false
          simp only [refOk, Bool.and_eq_false_iff, decide_eq_false_iff_not]
          first | (left; left; left; assumption) | (left; left; right; have := of_decide_eq_false ‹decide ((n : Int) ≤ 10) = false›; omega) | (right; assumption)
        have HR := hide (ref_no HF.out)
        go_enter Try.func7, Try.ntmps7
        go_wp2_with (first | (go_at_call 38; refine (cyGood_any _ _ _).mono ?_; rintro e w1 ⟨rfl, hb1⟩; have hz1 := hb1.size; (try (simp at hz1)); obtain ⟨hcw1, hfw1⟩ := bcell hb1; (try (have hy1 : w.heap.size < w1.heap.size := by omega)); (try (have hyy1 : w.heap.size + 1 < w1.heap.size := by omega)); (try (have hyyy1 : w.heap.size + 1 + 1 < w1.heap.size := by omega))) | (go_at_call 39; refine (l1In_any _ _ _ _).mono ?_; rintro e w' ⟨rfl, rfl⟩))
        obtain ⟨b1, b2, b3⟩ := HR.out
        rw [b1, b2, b3, HF.out]
        exact bodyPost_ret (v := .tuple #[.int .i64 0, .agg #[.int .i64 0, .int .i64 0], .bool false]) (by simp [results, Try.results7, go_sem, *]) rfl ⟨rfl, (by repeat (first | (with_reducible exact Below.refl _ _) | (with_reducible refine below_ov ?_ ?_) | (with_reducible refine Below.setCell ?_ ?_ _) | (with_reducible refine Below.alloc ?_ ?_ _) | (with_reducible refine Below.drew ?_) | (with_reducible refine below_drewN ?_ _) | (refine Below.trans ?_ (Below.mono ‹Below _ _ _› (by first | omega | (simp; done) | (simp; omega)))) | exact Below.refl _ _ | omega | (focus (simp; done)) | (focus (simp; omega))))⟩
      | true =>
        obtain ⟨hc1_2l, hc1_2r⟩ := inB_iff.1 hc1_2
        go_enter Try.func7, Try.ntmps7
        go_wp2_with (first | (go_at_call 38; refine (cyGood_any _ _ _).mono ?_; rintro e w1 ⟨rfl, hb1⟩; have hz1 := hb1.size; (try (simp at hz1)); obtain ⟨hcw1, hfw1⟩ := bcell hb1; (try (have hy1 : w.heap.size < w1.heap.size := by omega)); (try (have hyy1 : w.heap.size + 1 < w1.heap.size := by omega)); (try (have hyyy1 : w.heap.size + 1 + 1 < w1.heap.size := by omega))) | (go_at_call 39; refine (l1In_any _ _ _ _).mono ?_; rintro e w' ⟨rfl, rfl⟩))
        have p0 : w1.cell? ⟨w.heap.size, 0, none⟩ = some (.int .i64 V) := (hcw1 _ _ (by simp; omega)).trans ((World.cell?_alloc_lt _ _ _ (by simp)).trans (World.cell?_alloc_new _ _ _ _))
        have p1 : w1.cell? ⟨w.heap.size, 1, none⟩ = some (.int .i64 B) := (hcw1 _ _ (by simp; omega)).trans ((World.cell?_alloc_lt _ _ _ (by simp)).trans (World.cell?_alloc_new _ _ _ _))
        have pf : ∀ o, w1.frozen? ⟨w.heap.size, o, none⟩ = false := fun o => (hfw1 _ _ (by simp; omega)).trans (by simp [go_sem])
        have r0 : w1.cell? ⟨w.heap.size + 1, 0, none⟩ = some (.int .i64 0) := (hcw1 _ _ (by simp)).trans (World.cell?_alloc_at _ _ _ _ (by simp))
        have r1 : w1.cell? ⟨w.heap.size + 1, 1, none⟩ = some (.int .i64 0) := (hcw1 _ _ (by simp)).trans (World.cell?_alloc_at _ _ _ _ (by simp))
        have rf : ∀ o, w1.frozen? ⟨w.heap.size + 1, o, none⟩ = false := fun o => (hfw1 _ _ (by simp)).trans (by simp [go_sem])
        have hb0 : Below w.heap.size w w1 := (by repeat (first | (with_reducible exact Below.refl _ _) | (with_reducible refine below_ov ?_ ?_) | (with_reducible refine Below.setCell ?_ ?_ _) | (with_reducible refine Below.alloc ?_ ?_ _) | (with_reducible refine Below.drew ?_) | (with_reducible refine below_drewN ?_ _) | (refine Below.trans ?_ (Below.mono ‹Below _ _ _› (by first | omega | (simp; done) | (simp; omega)))) | exact Below.refl _ _ | omega | (focus (simp; done)) | (focus (simp; omega))))
        have hs0 : w.heap.size + 1 < w1.heap.size := by omega
        clear hcw1 hfw1 hb1 hy1 hyy1 hz1
        go_loopw [31] (fun i wr => ∃ k : Nat, k ≤ n ∧ i = .int .i64 k ∧ Hid (∀ j, j < k → cyl1 v b j = true) ∧ Below w1.heap.size w1 wr) (fun i _ => n - (intOf i).toNat)
        case atStart => exact ⟨0, by omega, rfl, fun j hj => by omega, Below.refl _ _⟩
        case round =>
          obtain ⟨k, hk, rfl, hj, hbw⟩ := hrel
          have hzr := hbw.size
          have hb : Below w.heap.size w wr := hb0.trans (hbw.mono (by omega))
          have rr0 := (hbw.cell (p := ⟨w.heap.size + 1, 0, none⟩) hs0).trans r0
          have rr1 := (hbw.cell (p := ⟨w.heap.size + 1, 1, none⟩) hs0).trans r1
          have rrf := fun o => (hbw.frozen (p := ⟨w.heap.size + 1, o, none⟩) hs0).trans (rf o)
          by_cases hkn : k < n
          · obtain ⟨blk, off, rfl, h1, h2, h3⟩ := (hA.below hb (by omega)) (by omega)
            have c0 : wr.cell? ⟨blk, off + k * 2, none⟩ = some (.int .i64 (v k)) := h3 k 0 hkn (by omega)
            have c1 : wr.cell? ⟨blk, off + k * 2 + 1, none⟩ = some (.int .i64 (b k)) := h3 k 1 hkn (by omega)
            clear h3 hA p0 p1 pf r0 r1 rf
            cases e1 : cylB (v k) (b k) with
            | true =>
              have HG : Hid (cyl1 v b k = true) := e1
              go_wp2_with (go_at_call 38; refine (cyGood_any _ _ _).mono ?_; rintro e w2 ⟨rfl, hb2⟩; have hz2 := hb2.size; (try (simp at hz2)); obtain ⟨hcw2, hfw2⟩ := bcell hb2; (try (have hy2 : w.heap.size < w2.heap.size := by omega)); (try (have hyy2 : w.heap.size + 1 < w2.heap.size := by omega)); (try (have hyyy2 : w.heap.size + 1 + 1 < w2.heap.size := by omega)))
              go_roundw
              case rel => exact ⟨k + 1, by omega, by go_num, upto_snoc hj.out HG.out, (by repeat (first | (with_reducible exact Below.refl _ _) | (with_reducible refine below_ov ?_ ?_) | (with_reducible refine Below.setCell ?_ ?_ _) | (with_reducible refine Below.alloc ?_ ?_ _) | (with_reducible refine Below.drew ?_) | (with_reducible refine below_drewN ?_ _) | (refine Below.trans ?_ (Below.mono ‹Below _ _ _› (by first | omega | (simp; done) | (simp; omega)))) | exact Below.refl _ _ | omega | (focus (simp; done)) | (focus (simp; omega))))⟩
              case measure => simp [intOf]; omega
            | false =>
              have HF : Hid (refOk V B v b n bar = false) := by show refOk V B v b n bar = false; rw [refOk, allB_false hkn (show cyl1 v b k = false from e1)]; simp
              have HR := hide (ref_no HF.out)
              have hs1 : w.heap.size + 1 < wr.heap.size := by omega
              go_wp2_with fail
              refine (cyGood_any _ _ _).mono ?_
              rintro e w2 ⟨rfl, hb2⟩
              rw [e1]
              have hz2 := hb2.size
              simp at hz2
              have q0 := (hb2.cell (p := ⟨w.heap.size + 1, 0, none⟩) (by simp; omega)).trans ((World.cell?_alloc_lt _ _ _ hs1).trans rr0)
              have q1 := (hb2.cell (p := ⟨w.heap.size + 1, 1, none⟩) (by simp; omega)).trans ((World.cell?_alloc_lt _ _ _ hs1).trans rr1)
              have qf : ∀ o, w2.frozen? ⟨w.heap.size + 1, o, none⟩ = false := fun o => (hb2.frozen (p := ⟨w.heap.size + 1, o, none⟩) (by simp; omega)).trans (by simp [go_sem, hs1, rrf])
              clear rr0 rr1 rrf
              go_wp2_with fail
              obtain ⟨b1, b2, b3⟩ := HR.out
              rw [b1, b2, b3, HF.out]
              exact bodyPost_ret (v := .tuple #[.int .i64 0, .agg #[.int .i64 0, .int .i64 0], .bool false]) (by simp [results, Try.results7, go_sem, *]) rfl ⟨rfl, (by repeat (first | (with_reducible exact Below.refl _ _) | (with_reducible refine below_ov ?_ ?_) | (with_reducible refine Below.setCell ?_ ?_ _) | (with_reducible refine Below.alloc ?_ ?_ _) | (with_reducible refine Below.drew ?_) | (with_reducible refine below_drewN ?_ _) | (refine Below.trans ?_ (Below.mono ‹Below _ _ _› (by first | omega | (simp; done) | (simp; omega)))) | exact Below.refl _ _ | omega | (focus (simp; done)) | (focus (simp; omega))))⟩
          · obtain rfl : k = n := by omega
            have HV := hide hj.out
            have HA : Hid (refOk V B v b k bar = true) := by show refOk V B v b k bar = true; simp [refOk, allB_iff.2 hj.out, *]; omega
            have pp0 := (hbw.cell (p := ⟨w.heap.size, 0, none⟩) (by show w.heap.size < _; omega)).trans p0
            have pp1 := (hbw.cell (p := ⟨w.heap.size, 1, none⟩) (by show w.heap.size < _; omega)).trans p1
            have ppf := fun o => (hbw.frozen (p := ⟨w.heap.size, o, none⟩) (by show w.heap.size < _; omega)).trans (pf o)
            clear p0 p1 pf r0 r1 rf hj
            obtain ⟨wq, rfl⟩ : ∃ wq : World, wq = wr := ⟨_, rfl⟩
            have hs1 : w.heap.size + 1 < wq.heap.size := by omega
            clear hbw hzr hb0 hs0
            go_wp2_with fail
            go_loopw [11, 42] (fun c i wr => ∃ j : Nat, j ≤ k ∧ i = .int .i64 j ∧ c = .int .i64 j ∧ Hid (∀ i, i < j → rfOk V v b bar B i = true) ∧ (wr.cell? ⟨w.heap.size, 0, none⟩ = some (.int .i64 V) ∧ wr.cell? ⟨w.heap.size, 1, none⟩ = some (.int .i64 (rfB V v b bar B j))) ∧ (∀ o, wr.frozen? ⟨w.heap.size, o, none⟩ = false) ∧ wr.cell? ⟨w.heap.size + 1, 0, none⟩ = some (.int .i64 0) ∧ wr.cell? ⟨w.heap.size + 1, 1, none⟩ = some (.int .i64 0) ∧ (∀ o, wr.frozen? ⟨w.heap.size + 1, o, none⟩ = false) ∧ Below w.heap.size w wr ∧ w.heap.size + 1 < wr.heap.size) (fun _ i _ => k - (intOf i).toNat)
            case atStart => exact ⟨0, by omega, rfl, rfl, fun j hj => by omega, ⟨pp0, pp1⟩, ppf, rr0, rr1, rrf, hb, hs1⟩
            case round =>
              obtain ⟨j, hk, rfl, rfl, hj, ⟨p0', p1'⟩, pf', r0', r1', rf', hb', hs⟩ := hrel
              clear pp0 pp1 ppf rr0 rr1 rrf hb
              have hs' : w.heap.size < wr.heap.size := by omega
              have hB := rfB_bd (V := V) (v := v) (b := b) (bar := bar) hc1_0s hc1_0t j
              have lB := lit_bd (v := V) (b := rfB V v b bar B j) (by omega) (by omega) (by omega) (by omega)
              by_cases hkn : j < k
              · obtain ⟨blk, off, rfl, h1, h2, h3⟩ := (hA.below hb' (by omega)) (by omega)
                have c0 : wr.cell? ⟨blk, off + j * 2, none⟩ = some (.int .i64 (v j)) := h3 j 0 hkn (by omega)
                have c1 : wr.cell? ⟨blk, off + j * 2 + 1, none⟩ = some (.int .i64 (b j)) := h3 j 1 hkn (by omega)
                clear h3 hA
                obtain ⟨⟨v1, v2⟩, v3, v4⟩ := cylB_iff.1 (HV.out j hkn)
                have l1 := lit_bd (v := v j) (b := bar) (by omega) v2 (by omega) (by omega)
                have l2 := lit_bd (v := v j) (b := b j) (by omega) v2 v3 v4
                cases e1 : decide (b j < bar) with
                | false =>
                  have HG : Hid (rfOk V v b bar B j = true) := by show rfOk V v b bar B j = true; simp [rfOk, e1]
                  have HS := hide (rfB_stay (V := V) (v := v) (B := B) (of_decide_eq_false e1))
                  go_wp2_with fail
                  go_roundw
                  case rel => exact ⟨j + 1, by omega, by go_num, by go_num, upto_snoc hj.out HG.out, by rw [HS.out]; exact ⟨by simp [go_sem, *], by simp [go_sem, *]⟩, fun o => by simp [go_sem, *], by simp [go_sem, *], by simp [go_sem, *], fun o => by simp [go_sem, *], (by repeat (first | (with_reducible exact Below.refl _ _) | (with_reducible refine below_ov ?_ ?_) | (with_reducible refine Below.setCell ?_ ?_ _) | (with_reducible refine Below.alloc ?_ ?_ _) | (with_reducible refine Below.drew ?_) | (with_reducible refine below_drewN ?_ _) | (refine Below.trans ?_ (Below.mono ‹Below _ _ _› (by first | omega | (simp; done) | (simp; omega)))) | exact Below.refl _ _ | omega | (focus (simp; done)) | (focus (simp; omega)))), by simp; omega⟩
                  case measure => simp [intOf]; omega
                | true =>
                  have u1 := rf_used (x := v j) (y := b j) v1 v2 v3 v4 hc1_2l hc1_2r (of_decide_eq_true e1)
                  cases e2 : decide ((lit V (rfB V v b bar B j) - lit (v j) bar + lit (v j) (b j)) < 0) with
                  | true =>
                    have HG : Hid (rfOk V v b bar B j = false) := by
                      show rfOk V v b bar B j = false
                      have := of_decide_eq_true e2
                      have e3 : aftOk V (rfB V v b bar B j) (lit (v j) bar - lit (v j) (b j)) = false := by simp [aftOk]; omega
                      simp [rfOk, e1, e3]
                    have HR := hide (ref_yes HA.out hk hj.out (.inr HG.out))
                    go_wp2_with fail
                    go_quiet ((go_at_call 40; first | exact quiet_left (cyLitres_any _ _ _ (by omega) (by omega) (by omega) (by omega)) | exact quiet_add_left (cyLitres_any _ _ _ (by omega) (by omega) (by omega) (by omega))))
                    go_wp2_with fail
                    go_quiet ((first | (go_at_call 42; first | exact quiet_left (cyFor_any _ _ _ (by omega) (by omega) (by omega) (by omega)) | exact quiet_add_left (cyFor_any _ _ _ (by omega) (by omega) (by omega) (by omega))) | (go_at_call 41; first | exact quiet_left (l1Least_any _ _ _) | exact quiet_add_left (l1Least_any _ _ _))))
                    go_wp2_with fail
                    go_region
                    go_wp2_with fail
                    obtain ⟨b1, b2, b3⟩ := HR.out
                    rw [b1, b2, b3, HA.out]
                    exact bodyPost_ret (v := .tuple #[.int .i64 (j : Nat), .agg #[.int .i64 V, .int .i64 (rfB V v b bar B j)], .bool true]) (by simp [results, Try.results7, go_sem, *]) rfl ⟨rfl, (by repeat (first | (with_reducible exact Below.refl _ _) | (with_reducible refine below_ov ?_ ?_) | (with_reducible refine Below.setCell ?_ ?_ _) | (with_reducible refine Below.alloc ?_ ?_ _) | (with_reducible refine Below.drew ?_) | (with_reducible refine below_drewN ?_ _) | (refine Below.trans ?_ (Below.mono ‹Below _ _ _› (by first | omega | (simp; done) | (simp; omega)))) | exact Below.refl _ _ | omega | (focus (simp; done)) | (focus (simp; omega))))⟩
                  | false =>
                    have h2' := Int.not_lt.1 (of_decide_eq_false e2)
                    have a2 : aftOk V (rfB V v b bar B j) (lit (v j) bar - lit (v j) (b j)) = true := by simp [aftOk]; omega
                    have am := aft_min (V := V) (B := rfB V v b bar B j) (u := lit (v j) bar - lit (v j) (b j)) (by omega) hB.1 (by omega) (by omega)
                    have al : lit V (rfB V v b bar B j) - (lit (v j) bar - lit (v j) (b j)) = (lit V (rfB V v b bar B j) - lit (v j) bar + lit (v j) (b j)) := by omega
                    rw [al] at am
                    have HM := hide am
                    clear am al
                    cases e3 : decide (min (rfB V v b bar B j) ((down V (lit V (rfB V v b bar B j) - lit (v j) bar + lit (v j) (b j)) 330 : Nat) : Int) < bar) with
                    | true =>
                      have HG : Hid (rfOk V v b bar B j = false) := by
                        show rfOk V v b bar B j = false
                        rw [HM.out] at e3
                        simp [rfOk, e1, a2, e3]
                      have HR := hide (ref_yes HA.out hk hj.out (.inr HG.out))
                      clear a2
                      go_wp2_with fail
                      go_quiet ((go_at_call 40; first | exact quiet_left (cyLitres_any _ _ _ (by omega) (by omega) (by omega) (by omega)) | exact quiet_add_left (cyLitres_any _ _ _ (by omega) (by omega) (by omega) (by omega))))
                      go_wp2_with fail
                      go_quiet ((first | (go_at_call 42; first | exact quiet_left (cyFor_any _ _ _ (by omega) (by omega) (by omega) (by omega)) | exact quiet_add_left (cyFor_any _ _ _ (by omega) (by omega) (by omega) (by omega))) | (go_at_call 41; first | exact quiet_left (l1Least_any _ _ _) | exact quiet_add_left (l1Least_any _ _ _))))
                      go_wp2_with fail
                      go_region
                      go_wp2_with fail
                      obtain ⟨b1, b2, b3⟩ := HR.out
                      rw [b1, b2, b3, HA.out]
                      exact bodyPost_ret (v := .tuple #[.int .i64 (j : Nat), .agg #[.int .i64 V, .int .i64 (rfB V v b bar B j)], .bool true]) (by simp [results, Try.results7, go_sem, *]) rfl ⟨rfl, (by repeat (first | (with_reducible exact Below.refl _ _) | (with_reducible refine below_ov ?_ ?_) | (with_reducible refine Below.setCell ?_ ?_ _) | (with_reducible refine Below.alloc ?_ ?_ _) | (with_reducible refine Below.drew ?_) | (with_reducible refine below_drewN ?_ _) | (refine Below.trans ?_ (Below.mono ‹Below _ _ _› (by first | omega | (simp; done) | (simp; omega)))) | exact Below.refl _ _ | omega | (focus (simp; done)) | (focus (simp; omega))))⟩
                    | false =>
                      have HG : Hid (rfOk V v b bar B j = true) := by
                        show rfOk V v b bar B j = true
                        rw [HM.out] at e3
                        simp [rfOk, e1, a2, e3]
                      have HS : Hid (rfB V v b bar B (j + 1) = min (rfB V v b bar B j) ((down V (lit V (rfB V v b bar B j) - lit (v j) bar + lit (v j) (b j)) 330 : Nat) : Int)) := by
                        show _ = _
                        rw [HM.out]
                        exact rfB_step (V := V) (v := v) (B := B) (of_decide_eq_true e1)
                      clear a2
                      go_wp2_with fail
                      go_quiet ((go_at_call 40; first | exact quiet_left (cyLitres_any _ _ _ (by omega) (by omega) (by omega) (by omega)) | exact quiet_add_left (cyLitres_any _ _ _ (by omega) (by omega) (by omega) (by omega))))
                      go_wp2_with fail
                      go_quiet ((first | (go_at_call 42; first | exact quiet_left (cyFor_any _ _ _ (by omega) (by omega) (by omega) (by omega)) | exact quiet_add_left (cyFor_any _ _ _ (by omega) (by omega) (by omega) (by omega))) | (go_at_call 41; first | exact quiet_left (l1Least_any _ _ _) | exact quiet_add_left (l1Least_any _ _ _))))
                      go_wp2_with fail
                      go_region_with (first | (go_at_call 42; refine (cyFor_any _ _ _ (by omega) (by omega) (by omega) (by omega)).mono ?_; rintro e w' ⟨rfl, rfl⟩) | (go_at_call 41; refine (l1Least_any _ _ _).mono ?_; rintro e w' ⟨rfl, rfl⟩))
                      all_goals go_wp2_with fail
                      all_goals
                        go_roundw
                        case rel => exact ⟨j + 1, by omega, by go_num, by go_num, upto_snoc hj.out HG.out, by rw [HS.out]; exact ⟨by simp [go_sem, *], by simp [go_sem, *]⟩, fun o => by simp [go_sem, *], by simp [go_sem, *], by simp [go_sem, *], fun o => by simp [go_sem, *], (by repeat (first | (with_reducible exact Below.refl _ _) | (with_reducible refine below_ov ?_ ?_) | (with_reducible refine Below.setCell ?_ ?_ _) | (with_reducible refine Below.alloc ?_ ?_ _) | (with_reducible refine Below.drew ?_) | (with_reducible refine below_drewN ?_ _) | (refine Below.trans ?_ (Below.mono ‹Below _ _ _› (by first | omega | (simp; done) | (simp; omega)))) | exact Below.refl _ _ | omega | (focus (simp; done)) | (focus (simp; omega)))), by simp; omega⟩
                        case measure => simp [intOf]; omega
              · obtain rfl : j = k := by omega
                have HR := hide (ref_yes HA.out (Nat.le_refl _) hj.out (.inl rfl))
                go_wp2_with fail
                go_region
                go_wp2_with fail
                obtain ⟨b1, b2, b3⟩ := HR.out
                rw [b1, b2, b3, HA.out]
                exact bodyPost_ret (v := .tuple #[.int .i64 (j : Nat), .agg #[.int .i64 V, .int .i64 (rfB V v b bar B j)], .bool true]) (by simp [results, Try.results7, go_sem, *]) rfl ⟨rfl, (by repeat (first | (with_reducible exact Below.refl _ _) | (with_reducible refine below_ov ?_ ?_) | (with_reducible refine Below.setCell ?_ ?_ _) | (with_reducible refine Below.alloc ?_ ?_ _) | (with_reducible refine Below.drew ?_) | (with_reducible refine below_drewN ?_ _) | (refine Below.trans ?_ (Below.mono ‹Below _ _ _› (by first | omega | (simp; done) | (simp; omega)))) | exact Below.refl _ _ | omega | (focus (simp; done)) | (focus (simp; omega))))⟩

end Go.Proofs.Yteoolhoncgaapaa
