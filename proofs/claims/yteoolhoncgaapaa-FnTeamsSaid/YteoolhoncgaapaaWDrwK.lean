/-
  Walks: what the reference draws as a list of checks: whatever it is.
-/
import Derived.Test.YteoolhoncgaapaaWDrwT
namespace Go.Proofs.Yteoolhoncgaapaa
set_option linter.unusedVariables false
set_option linter.unusedSimpArgs false
open Go.RowKit

theorem Only.grown {lo hi : Nat} {w w1 w2 : World} {row : Option Nat} (h : Only lo hi w w1) (hg : w1.grownBy w2 row) (hr : ∀ q, row = some q → w.heap.size ≤ q) : Only lo hi w w2 :=
  ⟨hg.os.trans h.os, hg.tape.trans h.tape, hg.output.trans h.output, Nat.le_trans h.size hg.size, fun k h1 h2 => (hg.block k (Nat.lt_of_lt_of_le h1 h.size) (fun e => by have := hr k e.symm; omega)).trans (h.block k h1 h2)⟩
theorem Cu.grown {w w' : World} {g m : Nat} {row : Option Nat} (h : Cu w g m) (hg : w.grownBy w' row) (hr : ∀ q, row = some q → g < q) : Cu w' g m := by
  obtain ⟨a, ha, A, L, cap, f, s, h0, h1, h2, h3, h4, h5, h6, h7, h8⟩ := h
  have hgb : w'.heap[g]? = w.heap[g]? := hg.block g h8 (fun e => by have := hr g e.symm; omega)
  refine ⟨a, ha, A, L, cap, f, s, (World.cell?_of_block (a := ⟨g, 0, none⟩) hgb).trans h0, (World.cell?_of_block (a := ⟨g, 1, none⟩) hgb).trans h1, (World.cell?_of_block (a := ⟨g, 2, none⟩) hgb).trans h2, fun o => (World.frozen?_of_block (a := ⟨g, o, none⟩) hgb).trans (h3 o), h4, h5, h6, fun hL => ?_, Nat.lt_of_lt_of_le h8 hg.size⟩
  obtain ⟨b, off, e, hne, hlt, hc⟩ := h7 hL
  have hb : w'.heap[b]? = w.heap[b]? := hg.block b hlt (fun e => by have := hr b e.symm; omega)
  exact ⟨b, off, e, hne, Nat.lt_of_lt_of_le hlt hg.size, fun i hi => (World.cell?_of_block (a := ⟨b, off + i, none⟩) hb).trans (hc i hi)⟩
set_option maxRecDepth 100000 in
set_option maxHeartbeats 6400000 in
theorem checks_any (g m : Nat) (w : World) (h : Cu w g m) (hm : m < 100000000) :
    Calls Try.prog 66 #[.pointer (some ⟨g, 0, none⟩)] w fun e w' => ∃ v : Value, e = .returned v ∧ ∃ n : Nat, IRow w' w.heap.size 2 v n ∧ n ≤ 21 ∧ Cu w' g (m + 200) ∧ Only g (g + 1) w w' := by
  have hg := h.lt
  obtain ⟨i0, hi0, iz0, iz1, iz2⟩ := info_parts infoCheck
  go_enter Try.func66, Try.ntmps66
  go_wp2_with fail
  refine (pick_any g _ _ _ (by repeat (first | (with_reducible refine Cu.alloc ?_ _) | (with_reducible refine Cu.drewN ?_ _) | (with_reducible refine Cu.drew ?_) | (with_reducible assumption))) (by omega)).mono ?_
  rintro e w1 ⟨v1, rfl, hv1, hC1, hO1⟩
  have hz1 := hO1.size
  (try (simp at hz1))
  go_wp2_with fail
  refine (one_any g _ _ _ (by repeat (first | (with_reducible refine Cu.alloc ?_ _) | (with_reducible refine Cu.drewN ?_ _) | (with_reducible refine Cu.drew ?_) | (with_reducible assumption))) (by omega)).mono ?_
  rintro e w2 ⟨b2, rfl, hC2, hO2⟩
  have hz2 := hO2.size
  (try (simp at hz2))
  cases b2 with
  | true =>
    go_wp2_with fail
    refine (among_new g _ _ _ _ _ _ (by repeat (first | (with_reducible refine Cu.alloc ?_ _) | (with_reducible refine Cu.drewN ?_ _) | (with_reducible refine Cu.drew ?_) | (with_reducible assumption))) (by first | (with_reducible rfl) | simp) (by omega) (by rfl) (by decide) (by decide) (by simp [isI])).mono ?_
    rintro e w3 ⟨v3, rfl, hM3, hC3, hO3⟩
    have hz3 := hO3.size
    (try (simp at hz3))
    simp at hM3
    obtain ⟨N, hN, hN0⟩ : ∃ N : Int, N = v3 ∧ 0 ≤ N ∧ N ≤ 21 := ⟨v3, rfl, by omega⟩
    subst hN
    have OA : Only g (g + 1) w w3 := (hO1.trans hO2).trans hO3
    clear hO1 hO2 hO3 hC1 hC2 hM3
    go_wp2_with fail
    refine (pick_any g _ _ _ (by repeat (first | (with_reducible refine Cu.alloc ?_ _) | (with_reducible refine Cu.drewN ?_ _) | (with_reducible refine Cu.drew ?_) | (with_reducible assumption))) (by omega)).mono ?_
    rintro e w5 ⟨v5, rfl, hv5, hC5, hO5⟩
    have hz5 := hO5.size
    (try (simp at hz5))
    go_wp2_with fail
    refine (among_new g _ _ _ _ _ _ (by repeat (first | (with_reducible refine Cu.alloc ?_ _) | (with_reducible refine Cu.drewN ?_ _) | (with_reducible refine Cu.drew ?_) | (with_reducible assumption))) (by first | (with_reducible rfl) | simp) (by omega) (by rfl) (by decide) (by decide) (by simp [isI])).mono ?_
    rintro e w6 ⟨v6, rfl, hM6, hC6, hO6⟩
    have hz6 := hO6.size
    (try (simp at hz6))
    have OB : Only g (g + 1) w w6 := (OA.trans hO5).trans hO6
    have CB : Cu w6 g (m + 20) := hC6.more (by omega)
    clear OA hO5 hO6 hC5 hC6
    go_wp2_with fail
    go_loopg [3, 5, 6] 25 (fun gn lv mv bv wr => ∃ (k : Nat) (B : Option Addr) (cp : Nat) (xs : List Value) (mi ba : Int), (k : Int) ≤ N ∧ N.toNat - k < gn ∧ lv = .slice B k cp ∧ mv = .int .i64 mi ∧ bv = .int .i64 ba ∧ Hid (wr.ownsRow w.heap.size 64 2 (.slice B k cp) k xs) ∧ Hid (∀ u ∈ xs, isI u = true) ∧ Cu wr g (m + 20 + 4 * k) ∧ Only g (g + 1) w wr)
    case atStart => exact ⟨0, none, 0, [], _, _, by omega, by omega, rfl, rfl, rfl, World.ownsRow_nil _ _ _ _, fun u hu => by simp at hu, CB, OB⟩
    case round =>
      obtain ⟨k, B, cp, xs, mi, ba, hk, hgn, rfl, rfl, rfl, hown, hxs, hCr, hOr⟩ := hrel
      have hzr := hOr.size
      by_cases hkn : (k : Int) < N
      · go_wp2_with (at_builtin; refine wpList_append_own _ rfl _ _ 53 rfl w.heap.size 64 i0 (.agg #[.int .i64 0, .int .i64 0]) 2 16 Try.underlying53 hi0 iz0 iz1 iz2 rfl (by decide) _ _ _ rfl (hown.out.alloc _) ⟨wr.heap.size, 0, none⟩ 1 1 [.int .i64 mi, .int .i64 ba] rfl rfl ?_ ?_ ?_ ?_ ?_ ?_)
        · intro i u hu
          match i, hu with
          | 0, hu => simp at hu; subst hu; simp [go_sem, Addr.add]
          | 1, hu => simp at hu; subst hu; simp [go_sem, Addr.add]
        · intro u hu
          simp at hu
          rcases hu with rfl | rfl <;> rfl
        · unfold maxLen; omega
        · omega
        · simp; omega
        intro v' w2 hown2 hg2 _
        have hO2 : Only g (g + 1) w w2 := (hOr.alloc _).grown hg2 (fun q hq => (hown.out.lt q hq).1)
        have hC2 : Cu w2 g (m + 20 + 4 * k) := (hCr.alloc _).grown hg2 (fun q hq => by have := (hown.out.lt q hq).1; omega)
        obtain ⟨B2, cp2, rfl⟩ := row_form hown2
        have hxs2 : Hid (∀ u ∈ xs ++ [.int .i64 mi, .int .i64 ba], isI u = true) := fun u hu => by
          rcases List.mem_append.1 hu with h1 | h1
          · exact hxs.out u h1
          · simp at h1
            rcases h1 with rfl | rfl <;> rfl
        have hown3 := hide hown2
        have hz2 := hO2.size
        clear hown hown2 hg2 hxs hCr hOr hzr
        go_wp2_with fail
        refine (among_new g _ _ _ _ _ _ (by repeat (first | (with_reducible refine Cu.alloc ?_ _) | (with_reducible refine Cu.drewN ?_ _) | (with_reducible refine Cu.drew ?_) | (with_reducible assumption))) (by first | (with_reducible rfl) | simp) (by omega) (by rfl) (by decide) (by decide) (by simp [isI])).mono ?_
        rintro e w3 ⟨v3, rfl, hM3, hC3, hO3⟩
        have hz3 := hO3.size
        (try (simp at hz3))
        go_wp2_with fail
        refine (among_new g _ _ _ _ _ _ (by repeat (first | (with_reducible refine Cu.alloc ?_ _) | (with_reducible refine Cu.drewN ?_ _) | (with_reducible refine Cu.drew ?_) | (with_reducible assumption))) (by first | (with_reducible rfl) | simp) (by omega) (by rfl) (by decide) (by decide) (by simp [isI])).mono ?_
        rintro e w4 ⟨v4, rfl, hM4, hC4, hO4⟩
        have hz4 := hO4.size
        (try (simp at hz4))
        go_wp2_with fail
        refine (l1Most_any _ _ _).mono ?_
        rintro e w5 ⟨rfl, rfl⟩
        have hr4 := hide (row_only (row_only hown3.out hO3 (by omega)) hO4 (by omega))
        have O4 : Only g (g + 1) w w4 := (hO2.trans hO3).trans hO4
        clear hown3 hO2 hO3 hO4
        go_wp2_with fail
        go_roundg (N.toNat - k)
        case measure => omega
        case rel => exact ⟨k + 1, B2, cp2, _, _, _, by omega, by omega, rfl, rfl, rfl, hr4, hxs2, hC4.more (by omega), O4⟩
      · have ek : (k : Int) = N := by omega
        have hR : IRow wr w.heap.size 2 (.slice B k cp) k := IRow.of_own hown.out hxs.out
        clear hown hxs
        by_cases hN0 : N > 0
        · go_wp2_with fail
          refine (one_any g _ _ _ (by repeat (first | (with_reducible refine Cu.alloc ?_ _) | (with_reducible refine Cu.drewN ?_ _) | (with_reducible refine Cu.drew ?_) | (with_reducible assumption))) (by omega)).mono ?_
          rintro e w7 ⟨b7, rfl, hC7, hO7⟩
          have hz7 := hO7.size
          (try (simp at hz7))
          cases b7 with
          | false =>
            have hR7 := hR.only hO7 (by omega)
            have O7 := hOr.trans hO7
            clear hR hO7 hOr
            go_wp2_with fail
            go_ret
            exact ⟨_, rfl, k, hR7, by omega, hC7.more (by omega), O7⟩
          | true =>
            go_wp2_with fail
            refine (pick_any g _ _ _ (by repeat (first | (with_reducible refine Cu.alloc ?_ _) | (with_reducible refine Cu.drewN ?_ _) | (with_reducible refine Cu.drew ?_) | (with_reducible assumption))) (by omega)).mono ?_
            rintro e w8 ⟨v8, rfl, hv8, hC8, hO8⟩
            have hz8 := hO8.size
            (try (simp at hz8))
            obtain ⟨kk, rfl⟩ : ∃ kk : Nat, v8 = kk := ⟨v8.toNat, by omega⟩
            have hkk : kk < k := by omega
            go_wp2_with fail
            refine (among_new g _ _ _ _ _ _ (by repeat (first | (with_reducible refine Cu.alloc ?_ _) | (with_reducible refine Cu.drewN ?_ _) | (with_reducible refine Cu.drew ?_) | (with_reducible assumption))) (by first | (with_reducible rfl) | simp) (by omega) (by rfl) (by decide) (by decide) (by simp [isI])).mono ?_
            rintro e w9 ⟨v9, rfl, hM9, hC9, hO9⟩
            have hz9 := hO9.size
            (try (simp at hz9))
            have hR9 := ((hR.only hO7 (by omega)).only hO8 (by omega)).only hO9 (by omega)
            have O9 := ((hOr.trans hO7).trans hO8).trans hO9
            clear hR hO7 hO8 hO9 hOr
            rcases id hR9 with ⟨_, h0⟩ | ⟨q, cq, h0, hq1, hq2, hq3, hq4, hq5⟩
            · omega
            cases h0
            obtain ⟨y1, hy1⟩ := hq5 (kk * 2 + 1) (by omega)
            obtain ⟨y0, hy0⟩ := hq5 (kk * 2) (by omega)
            clear hq5
            have hR10 : Hid (IRow (w9.setCell ⟨q, kk * 2 + 1, none⟩ (.int .i64 v9)) w.heap.size 2 (.slice (some ⟨q, 0, none⟩) k cp) k) := hR9.set v9
            have O10 : Only g (g + 1) w (w9.setCell ⟨q, kk * 2 + 1, none⟩ (.int .i64 v9)) := O9.setNew (a := ⟨q, kk * 2 + 1, none⟩) (by show w.heap.size ≤ q; omega) _
            have hC10 : Cu (w9.setCell ⟨q, kk * 2 + 1, none⟩ (.int .i64 v9)) g _ := hC9.set (p := ⟨q, kk * 2 + 1, none⟩) (by show g < q; omega) _
            clear hR9 O9 hC9
            go_wp2_with fail
            refine (among_new g _ _ _ _ _ _ (by repeat (first | (with_reducible refine Cu.alloc ?_ _) | (with_reducible refine Cu.drewN ?_ _) | (with_reducible refine Cu.drew ?_) | (with_reducible assumption))) (by first | (with_reducible rfl) | simp) (by omega) (by rfl) (by decide) (by decide) (by simp [isI])).mono ?_
            rintro e w11 ⟨v11, rfl, hM11, hC11, hO11⟩
            have hz11 := hO11.size
            (try (simp at hz11))
            have hR11 := hR10.out.only hO11 (by omega)
            have O11 := O10.trans hO11
            clear hR10 hC10 O10 hO11
            rcases id hR11 with ⟨_, h0⟩ | ⟨q2, cq2, h0, gq1, gq2, gq3, gq4, gq5⟩
            · omega
            cases h0
            obtain ⟨z0, hz0⟩ := gq5 (kk * 2) (by omega)
            clear gq5
            go_wp2_with fail
            go_ret
            exact ⟨_, rfl, k, hR11.set v11, by omega, (hC11.set (p := ⟨q, kk * 2, none⟩) (by show g < q; omega) _).more (by omega), O11.setNew (a := ⟨q, kk * 2, none⟩) (by show w.heap.size ≤ q; omega) _⟩
        · go_wp2_with fail
          go_ret
          exact ⟨_, rfl, k, hR, by omega, hCr.more (by omega), hOr⟩
  | false =>
    obtain ⟨N, hN, hN0⟩ : ∃ N : Int, N = 1 + v1 ∧ 0 ≤ N ∧ N ≤ 21 := ⟨1 + v1, rfl, by omega⟩
    have zN : IntKind.i64.wrap (1 + v1) = 1 + v1 := IntWalk.i64_in _ (by omega)
    have OA : Only g (g + 1) w w2 := hO1.trans hO2
    clear hO1 hO2 hC1
    (try rw [← hN])
    clear hN zN
    go_wp2_with fail
    refine (pick_any g _ _ _ (by repeat (first | (with_reducible refine Cu.alloc ?_ _) | (with_reducible refine Cu.drewN ?_ _) | (with_reducible refine Cu.drew ?_) | (with_reducible assumption))) (by omega)).mono ?_
    rintro e w5 ⟨v5, rfl, hv5, hC5, hO5⟩
    have hz5 := hO5.size
    (try (simp at hz5))
    go_wp2_with fail
    refine (among_new g _ _ _ _ _ _ (by repeat (first | (with_reducible refine Cu.alloc ?_ _) | (with_reducible refine Cu.drewN ?_ _) | (with_reducible refine Cu.drew ?_) | (with_reducible assumption))) (by first | (with_reducible rfl) | simp) (by omega) (by rfl) (by decide) (by decide) (by simp [isI])).mono ?_
    rintro e w6 ⟨v6, rfl, hM6, hC6, hO6⟩
    have hz6 := hO6.size
    (try (simp at hz6))
    have OB : Only g (g + 1) w w6 := (OA.trans hO5).trans hO6
    have CB : Cu w6 g (m + 20) := hC6.more (by omega)
    clear OA hO5 hO6 hC5 hC6
    go_wp2_with fail
    go_loopg [3, 5, 6] 25 (fun gn lv mv bv wr => ∃ (k : Nat) (B : Option Addr) (cp : Nat) (xs : List Value) (mi ba : Int), (k : Int) ≤ N ∧ N.toNat - k < gn ∧ lv = .slice B k cp ∧ mv = .int .i64 mi ∧ bv = .int .i64 ba ∧ Hid (wr.ownsRow w.heap.size 64 2 (.slice B k cp) k xs) ∧ Hid (∀ u ∈ xs, isI u = true) ∧ Cu wr g (m + 20 + 4 * k) ∧ Only g (g + 1) w wr)
    case atStart => exact ⟨0, none, 0, [], _, _, by omega, by omega, rfl, rfl, rfl, World.ownsRow_nil _ _ _ _, fun u hu => by simp at hu, CB, OB⟩
    case round =>
      obtain ⟨k, B, cp, xs, mi, ba, hk, hgn, rfl, rfl, rfl, hown, hxs, hCr, hOr⟩ := hrel
      have hzr := hOr.size
      by_cases hkn : (k : Int) < N
      · go_wp2_with (at_builtin; refine wpList_append_own _ rfl _ _ 53 rfl w.heap.size 64 i0 (.agg #[.int .i64 0, .int .i64 0]) 2 16 Try.underlying53 hi0 iz0 iz1 iz2 rfl (by decide) _ _ _ rfl (hown.out.alloc _) ⟨wr.heap.size, 0, none⟩ 1 1 [.int .i64 mi, .int .i64 ba] rfl rfl ?_ ?_ ?_ ?_ ?_ ?_)
        · intro i u hu
          match i, hu with
          | 0, hu => simp at hu; subst hu; simp [go_sem, Addr.add]
          | 1, hu => simp at hu; subst hu; simp [go_sem, Addr.add]
        · intro u hu
          simp at hu
          rcases hu with rfl | rfl <;> rfl
        · unfold maxLen; omega
        · omega
        · simp; omega
        intro v' w2 hown2 hg2 _
        have hO2 : Only g (g + 1) w w2 := (hOr.alloc _).grown hg2 (fun q hq => (hown.out.lt q hq).1)
        have hC2 : Cu w2 g (m + 20 + 4 * k) := (hCr.alloc _).grown hg2 (fun q hq => by have := (hown.out.lt q hq).1; omega)
        obtain ⟨B2, cp2, rfl⟩ := row_form hown2
        have hxs2 : Hid (∀ u ∈ xs ++ [.int .i64 mi, .int .i64 ba], isI u = true) := fun u hu => by
          rcases List.mem_append.1 hu with h1 | h1
          · exact hxs.out u h1
          · simp at h1
            rcases h1 with rfl | rfl <;> rfl
        have hown3 := hide hown2
        have hz2 := hO2.size
        clear hown hown2 hg2 hxs hCr hOr hzr
        go_wp2_with fail
        refine (among_new g _ _ _ _ _ _ (by repeat (first | (with_reducible refine Cu.alloc ?_ _) | (with_reducible refine Cu.drewN ?_ _) | (with_reducible refine Cu.drew ?_) | (with_reducible assumption))) (by first | (with_reducible rfl) | simp) (by omega) (by rfl) (by decide) (by decide) (by simp [isI])).mono ?_
        rintro e w3 ⟨v3, rfl, hM3, hC3, hO3⟩
        have hz3 := hO3.size
        (try (simp at hz3))
        go_wp2_with fail
        refine (among_new g _ _ _ _ _ _ (by repeat (first | (with_reducible refine Cu.alloc ?_ _) | (with_reducible refine Cu.drewN ?_ _) | (with_reducible refine Cu.drew ?_) | (with_reducible assumption))) (by first | (with_reducible rfl) | simp) (by omega) (by rfl) (by decide) (by decide) (by simp [isI])).mono ?_
        rintro e w4 ⟨v4, rfl, hM4, hC4, hO4⟩
        have hz4 := hO4.size
        (try (simp at hz4))
        go_wp2_with fail
        refine (l1Most_any _ _ _).mono ?_
        rintro e w5 ⟨rfl, rfl⟩
        have hr4 := hide (row_only (row_only hown3.out hO3 (by omega)) hO4 (by omega))
        have O4 : Only g (g + 1) w w4 := (hO2.trans hO3).trans hO4
        clear hown3 hO2 hO3 hO4
        go_wp2_with fail
        go_roundg (N.toNat - k)
        case measure => omega
        case rel => exact ⟨k + 1, B2, cp2, _, _, _, by omega, by omega, rfl, rfl, rfl, hr4, hxs2, hC4.more (by omega), O4⟩
      · have ek : (k : Int) = N := by omega
        have hR : IRow wr w.heap.size 2 (.slice B k cp) k := IRow.of_own hown.out hxs.out
        clear hown hxs
        by_cases hN0 : N > 0
        · go_wp2_with fail
          refine (one_any g _ _ _ (by repeat (first | (with_reducible refine Cu.alloc ?_ _) | (with_reducible refine Cu.drewN ?_ _) | (with_reducible refine Cu.drew ?_) | (with_reducible assumption))) (by omega)).mono ?_
          rintro e w7 ⟨b7, rfl, hC7, hO7⟩
          have hz7 := hO7.size
          (try (simp at hz7))
          cases b7 with
          | false =>
            have hR7 := hR.only hO7 (by omega)
            have O7 := hOr.trans hO7
            clear hR hO7 hOr
            go_wp2_with fail
            go_ret
            exact ⟨_, rfl, k, hR7, by omega, hC7.more (by omega), O7⟩
          | true =>
            go_wp2_with fail
            refine (pick_any g _ _ _ (by repeat (first | (with_reducible refine Cu.alloc ?_ _) | (with_reducible refine Cu.drewN ?_ _) | (with_reducible refine Cu.drew ?_) | (with_reducible assumption))) (by omega)).mono ?_
            rintro e w8 ⟨v8, rfl, hv8, hC8, hO8⟩
            have hz8 := hO8.size
            (try (simp at hz8))
            obtain ⟨kk, rfl⟩ : ∃ kk : Nat, v8 = kk := ⟨v8.toNat, by omega⟩
            have hkk : kk < k := by omega
            go_wp2_with fail
            refine (among_new g _ _ _ _ _ _ (by repeat (first | (with_reducible refine Cu.alloc ?_ _) | (with_reducible refine Cu.drewN ?_ _) | (with_reducible refine Cu.drew ?_) | (with_reducible assumption))) (by first | (with_reducible rfl) | simp) (by omega) (by rfl) (by decide) (by decide) (by simp [isI])).mono ?_
            rintro e w9 ⟨v9, rfl, hM9, hC9, hO9⟩
            have hz9 := hO9.size
            (try (simp at hz9))
            have hR9 := ((hR.only hO7 (by omega)).only hO8 (by omega)).only hO9 (by omega)
            have O9 := ((hOr.trans hO7).trans hO8).trans hO9
            clear hR hO7 hO8 hO9 hOr
            rcases id hR9 with ⟨_, h0⟩ | ⟨q, cq, h0, hq1, hq2, hq3, hq4, hq5⟩
            · omega
            cases h0
            obtain ⟨y1, hy1⟩ := hq5 (kk * 2 + 1) (by omega)
            obtain ⟨y0, hy0⟩ := hq5 (kk * 2) (by omega)
            clear hq5
            have hR10 : Hid (IRow (w9.setCell ⟨q, kk * 2 + 1, none⟩ (.int .i64 v9)) w.heap.size 2 (.slice (some ⟨q, 0, none⟩) k cp) k) := hR9.set v9
            have O10 : Only g (g + 1) w (w9.setCell ⟨q, kk * 2 + 1, none⟩ (.int .i64 v9)) := O9.setNew (a := ⟨q, kk * 2 + 1, none⟩) (by show w.heap.size ≤ q; omega) _
            have hC10 : Cu (w9.setCell ⟨q, kk * 2 + 1, none⟩ (.int .i64 v9)) g _ := hC9.set (p := ⟨q, kk * 2 + 1, none⟩) (by show g < q; omega) _
            clear hR9 O9 hC9
            go_wp2_with fail
            refine (among_new g _ _ _ _ _ _ (by repeat (first | (with_reducible refine Cu.alloc ?_ _) | (with_reducible refine Cu.drewN ?_ _) | (with_reducible refine Cu.drew ?_) | (with_reducible assumption))) (by first | (with_reducible rfl) | simp) (by omega) (by rfl) (by decide) (by decide) (by simp [isI])).mono ?_
            rintro e w11 ⟨v11, rfl, hM11, hC11, hO11⟩
            have hz11 := hO11.size
            (try (simp at hz11))
            have hR11 := hR10.out.only hO11 (by omega)
            have O11 := O10.trans hO11
            clear hR10 hC10 O10 hO11
            rcases id hR11 with ⟨_, h0⟩ | ⟨q2, cq2, h0, gq1, gq2, gq3, gq4, gq5⟩
            · omega
            cases h0
            obtain ⟨z0, hz0⟩ := gq5 (kk * 2) (by omega)
            clear gq5
            go_wp2_with fail
            go_ret
            exact ⟨_, rfl, k, hR11.set v11, by omega, (hC11.set (p := ⟨q, kk * 2, none⟩) (by show g < q; omega) _).more (by omega), O11.setNew (a := ⟨q, kk * 2, none⟩) (by show w.heap.size ≤ q; omega) _⟩
        · go_wp2_with fail
          go_ret
          exact ⟨_, rfl, k, hR, by omega, hCr.more (by omega), hOr⟩

end Go.Proofs.Yteoolhoncgaapaa
