/-
  Walks: drawn arguments of the laws on teams' cylinders: lists of cylinders, of rates.
-/
import Derived.Test.YteoolhoncgaapaaWDrwS
import Derived.Test.YteoolhoncgaapaaMix
import Derived.BigRegion
namespace Go.Proofs.Yteoolhoncgaapaa
set_option linter.unusedVariables false
set_option linter.unusedSimpArgs false
open Go.RowKit

/-- A row of pairs of the call's own, at most 21 long; nothing older has turned. -/
def RowP (w w' : World) (u : Value) : Prop := ∃ k : Nat, IRow w' w.heap.size 2 u k ∧ k ≤ 21 ∧ Below w.heap.size w w'
def RfPost (w : World) (e : Ending) (w' : World) : Prop := ∃ (x y : Int) (u : Value) (z : Int), e = .returned (.tuple #[.agg #[.int .i64 x, .int .i64 y], u, .int .i64 z]) ∧ RowP w w' u
theorem rf_post {w w' : World} {x y z : Int} {u : Value} {k : Nat} (h : IRow w' w.heap.size 2 u k) (hk : k ≤ 21) (hb : Below w.heap.size w w') : RfPost w (.returned (.tuple #[.agg #[.int .i64 x, .int .i64 y], u, .int .i64 z])) w' := ⟨_, _, _, _, rfl, k, h, hk, hb⟩
theorem BxI.drew {w : World} {b : Nat} {x y : Int} (h : BxI w b x y) : BxI w.drew b x y := h.keep rfl (Nat.le_refl _)
theorem IRow.drew {w : World} {lo sz n : Nat} {v : Value} (h : IRow w lo sz v n) : IRow w.drew lo sz v n := h.keep (fun _ _ _ => rfl) (Nat.le_refl _)
theorem mix_stores {P : Program} {ops : Array Oper} {C : World → Prop} {Q : Act → World → Prop} {k : Nat} {r : List (Nat × Bool)} {a : Act} {w : World} (o : Oper) (w' : World) (hk : ops[k]? = some o) (hw : Region.wanted o (yielded ops a.tmps) = true) (hv : (execOp a.eval o).run P w = .ok .skip w') (hC : C w')
    (h : wpMix P ops C Q r (a.put o.dst undef) w') : wpMix P ops C Q ((k, false) :: r) a w := by
  show eOp P ops k _ a w
  unfold eOp
  simp only [hk, hw, if_true, hv, goesUpon]
  exact ⟨hC, h⟩
theorem BxI.grown {w w' : World} {b : Nat} {x y : Int} {row : Option Nat} (h : BxI w b x y) (hg : w.grownBy w' row) (hr : ∀ q, row = some q → q ≠ b) : BxI w' b x y := h.keep (hg.block b h.lt (fun e => hr b e.symm rfl)) hg.size
set_option maxRecDepth 100000 in
set_option maxHeartbeats 6400000 in
theorem DrawRefillsFrom_any (v : Value) (w : World) (h : Code w v) :
    Calls Try.prog 36 #[v] w (RfPost w) := by
  obtain ⟨A, n, cap, rfl⟩ := h.form
  obtain ⟨i0, hi0, iz0, iz1, iz2⟩ := info_parts infoCyl
  have hC0 : Cu ((w.alloc (.cells #[.int .i64 0, .int .i64 0] 26)).alloc (.cells #[.slice A n cap, .int .i64 0, .int .u64 0] 75)) (w.heap.size + 1) 0 := by
    have := Cu.start (h.below ((Below.refl _ _).alloc (Nat.le_refl _) (.cells #[.int .i64 0, .int .i64 0] 26)) (Nat.le_refl _)) 75
    simpa using this
  have R0 : BxI ((w.alloc (.cells #[.int .i64 0, .int .i64 0] 26)).alloc (.cells #[.slice A n cap, .int .i64 0, .int .u64 0] 75)) w.heap.size 0 0 := (BxI.new w 0 0 _).alloc _
  have O0 : Only (w.heap.size + 1) ((w.heap.size + 1) + 1) w ((w.alloc (.cells #[.int .i64 0, .int .i64 0] 26)).alloc (.cells #[.slice A n cap, .int .i64 0, .int .u64 0] 75)) := ((Only.refl _ _ w).alloc _).alloc _
  go_enter Try.func36, Try.ntmps36
  go_wp2_with fail
  refine (among_new _ _ _ _ _ _ _ hC0 (by first | (with_reducible rfl) | simp) (by omega) (by rfl) (by decide) (by decide) (by simp [isI])).mono ?_
  rintro e w1 ⟨v1, rfl, hM1, hC1, hO1⟩
  have hz1 := hO1.size
  (try (simp at hz1))
  go_wp2_with fail
  refine (among_new _ _ _ _ _ _ _ hC1 (by first | (with_reducible rfl) | simp) (by omega) (by rfl) (by decide) (by decide) (by simp [isI])).mono ?_
  rintro e w2 ⟨v2, rfl, hM2, hC2, hO2⟩
  have hz2 := hO2.size
  (try (simp at hz2))
  have R2 := (R0.only hO1 (by omega)).only hO2 (by omega)
  have O2 := (O0.trans hO1).trans hO2
  clear R0 O0 hC0 hC1 hO1 hO2
  go_wp2_with fail
  obtain ⟨W3, hW3⟩ : ∃ W, W = w2.alloc (.cells #[.int .i64 v1, .int .i64 v2] 26) := ⟨_, rfl⟩
  rw [← hW3]
  have S3 : BxI W3 w2.heap.size v1 v2 := by rw [hW3]; exact BxI.new _ _ _ _
  have R3 : BxI W3 w.heap.size 0 0 := by rw [hW3]; exact R2.alloc _
  have hC3 : Cu W3 (w.heap.size + 1) 4 := by rw [hW3]; exact hC2.alloc _
  have O3 : Only (w.heap.size + 1) ((w.heap.size + 1) + 1) w W3 := by rw [hW3]; exact O2.alloc _
  have hl2 : (w.heap.size + 1) < w2.heap.size := hC2.lt
  clear hW3 R2 O2 hC2
  refine (one_any _ _ _ _ hC3 (by omega)).mono ?_
  rintro e w4 ⟨b4, rfl, hC4, hO4⟩
  have hz4 := hO4.size
  have S4 := S3.only hO4 (by omega)
  have R4 := R3.only hO4 (by omega)
  have O4 := O3.trans hO4
  clear S3 R3 O3 hC3 hO4
  have key : Hid (b4 = b4) := rfl
  cases b4 with
  | false =>
    go_wp2_with fail
    refine (pick_any _ _ _ _ hC4 (by omega)).mono ?_
    rintro e w6 ⟨v6, rfl, hv6, hC6, hO6⟩
    have hz6 := hO6.size
    (try (simp at hz6))
    have S6 := S4.only hO6 (by omega)
    have R6 := R4.only hO6 (by omega)
    have O6 := O4.trans hO6
    clear S4 R4 O4 hC4 hO6
    go_wp2_with fail
    refine (one_any _ _ _ _ hC6 (by omega)).mono ?_
    rintro e w7 ⟨b7, rfl, hC7, hO7⟩
    have hz7 := hO7.size
    (try (simp at hz7))
    have S7 := S6.only hO7 (by omega)
    have R7 := R6.only hO7 (by omega)
    have O7 := O6.trans hO7
    clear S6 R6 O6 hC6 hO7
    cases b7 with
    | false =>
      obtain ⟨K, hK⟩ : ∃ K : Int, K = v6 ∧ 0 ≤ K ∧ K ≤ 20 := ⟨v6, rfl, by omega⟩
      obtain ⟨rfl, hK0, hK1⟩ := hK
      have hC8 : Cu w7 (w.heap.size + 1) 100 := hC7.more (by omega)
      clear hC7
      have HS0 := hide S7
      have HR0 := hide R7
      clear S7 R7
      go_wp2_with fail
      go_loopg [7] 25 (fun gn lv wr => ∃ (k : Nat) (B : Option Addr) (cp : Nat) (xs : List Value), (k : Int) ≤ K ∧ K.toNat - k < gn ∧ lv = .slice B k cp ∧ Hid (wr.ownsRow w2.heap.size.succ 26 2 (.slice B k cp) k xs) ∧ Hid (∀ u ∈ xs, isI u = true) ∧ Cu wr (w.heap.size + 1) (100 + 20 * k) ∧ Only (w.heap.size + 1) ((w.heap.size + 1) + 1) w wr ∧ Hid (BxI wr w2.heap.size v1 v2) ∧ Hid (BxI wr w.heap.size 0 0))
      case atStart => exact ⟨0, none, 0, [], by omega, by omega, rfl, World.ownsRow_nil _ _ _ _, fun u hu => by simp at hu, hC8, O7, HS0, HR0⟩
      case round =>
        obtain ⟨k, B, cp, xs, hk, hgn, rfl, hown, hxs, hCr, hOr, HS, HR⟩ := hrel
        have hzr := hOr.size
        have hlS := HS.out.lt
        by_cases hkn : (k : Int) < K
        · go_wp2_with fail
          refine (cylinder_any _ _ _ hCr (by omega)).mono ?_
          rintro e w1 ⟨cx, cy, rfl, hC1, hO1⟩
          have hown1 := row_only hown.out hO1 (by omega)
          have HS1 := hide (HS.out.only hO1 (by omega))
          have HR1 := hide (HR.out.only hO1 (by omega))
          have O1 := hOr.trans hO1
          have hz1 := hO1.size
          clear hown HS HR hOr hO1 hCr
          go_wp2_with (at_builtin; refine wpList_append_own _ rfl _ _ 30 rfl w2.heap.size.succ 26 i0 (.agg #[.int .i64 0, .int .i64 0]) 2 16 Try.underlying30 hi0 iz0 iz1 iz2 rfl (by decide) _ _ _ rfl (hown1.alloc _) ⟨w1.heap.size, 0, none⟩ 1 1 [.int .i64 cx, .int .i64 cy] rfl rfl ?_ ?_ ?_ ?_ ?_ ?_)
          · intro i u hu
            match i, hu with
            | 0, hu => simp at hu; subst hu; simp [go_sem, Addr.add]
            | 1, hu => simp at hu; subst hu; simp [go_sem, Addr.add]
          · intro u hu
            simp at hu
            rcases hu with rfl | rfl <;> rfl
          · unfold maxLen; omega
          · omega
          · simp; omega
          intro v' w5 hown2 hg2 _
          have hlt := hown1.lt
          have O5 : Only (w.heap.size + 1) ((w.heap.size + 1) + 1) w w5 := (O1.alloc _).grown hg2 (fun q hq => by have := (hlt q hq).1; omega)
          have hC5 : Cu w5 (w.heap.size + 1) _ := (hC1.alloc _).grown hg2 (fun q hq => by have := (hlt q hq).1; omega)
          have HS5 := hide ((HS1.out.alloc _).grown hg2 (fun q hq => by have := (hlt q hq).1; omega))
          have HR5 := hide ((HR1.out.alloc _).grown hg2 (fun q hq => by have := (hlt q hq).1; omega))
          obtain ⟨B2, cp2, rfl⟩ := row_form hown2
          have hxs2 : Hid (∀ u ∈ xs ++ [.int .i64 cx, .int .i64 cy], isI u = true) := fun u hu => by
            rcases List.mem_append.1 hu with h1 | h1
            · exact hxs.out u h1
            · simp at h1
              rcases h1 with rfl | rfl <;> rfl
          have hown3 := hide hown2
          clear hown1 hown2 hg2 hxs O1 hC1 HS1 HR1 hlt
          go_wp2_with fail
          go_roundg (K.toNat - k)
          case measure => omega
          case rel => exact ⟨k + 1, B2, cp2, _, by omega, by omega, rfl, hown3, hxs2, hC5.more (by omega), O5, HS5, HR5⟩
        · have hR : Hid (IRow wr w2.heap.size.succ 2 (.slice B k cp) k) := IRow.of_own hown.out hxs.out
          clear hown hxs
          have hlx : w2.heap.size.succ = w2.heap.size + 1 := rfl
          have HSd := HS.out.drew
          have HRd := HR.out.drew
          go_wp2_with fail
          refine wp_region_mix [(0, true), (1, true), (2, true), (3, true), (4, false), (5, false), (6, false), (7, false), (8, false), (9, true), (10, true)] (fun W => BxI W w2.heap.size v1 v2) (by kernel_rfl) (by kernel_rfl) (by kernel_rfl) (by kernel_rfl) HSd ?_
          refine mix_look _ (.agg #[.int .i64 v1, .int .i64 v2]) rfl rfl (fun w' hw' => (by obtain ⟨p0, p1, pf, pl⟩ := hw'; go_simp)) ?_
          go_simp
          refine mix_look _ _ rfl rfl (fun w' _ => BigFrame.run_move _ rfl w') ?_
          go_simp
          refine mix_look _ _ rfl rfl (fun w' _ => BigFrame.run_move _ rfl w') ?_
          go_simp
          refine mix_look _ _ rfl rfl (fun w' _ => BigFrame.run_move _ rfl w') ?_
          go_simp
          have SA : BxI (wr.drew.alloc (.cells #[.int .i64 0, .int .i64 331] 3)) w2.heap.size v1 v2 := HSd.alloc _
          refine mix_value _ (.slice (some ⟨wr.heap.size, 0, none⟩) 2 2) (wr.drew.alloc (.cells #[.int .i64 0, .int .i64 331] 3)) rfl rfl (by go_simp) SA ?_
          go_simp
          refine mix_call _ 60 #[.pointer (some ⟨w.heap.size + 1, 0, none⟩), .slice (some ⟨wr.heap.size, 0, none⟩) 2 2] rfl rfl (by go_simp) ?_
          refine (among_new _ _ _ _ wr.drew _ _ hCr.drew rfl (by omega) (by rfl) (by decide) (by decide) (by simp [isI])).mono ?_
          rintro e w5 ⟨q1, rfl, _, hC5, hO5⟩
          have S5 : BxI w5 w2.heap.size v1 v2 := HSd.only hO5 (by omega)
          have R5 : BxI w5 w.heap.size 0 0 := HRd.only hO5 (by omega)
          have O5 : Only (w.heap.size + 1) ((w.heap.size + 1) + 1) w w5 := hOr.trans (Only.trans (w' := wr.drew) ⟨rfl, rfl, rfl, Nat.le_refl _, fun _ _ _ => rfl⟩ hO5)
          have I5 := hR.out.drew.only hO5 (by omega)
          refine ⟨_, rfl, S5, ?_⟩
          go_simp
          have S6 : BxI (w5.alloc (.cells #[.int .i64 300, .int .i64 200, .int .i64 250, .int .i64 1, .int .i64 330, .int .i64 q1] 3)) w2.heap.size v1 v2 := S5.alloc _
          refine mix_value _ (.slice (some ⟨w5.heap.size, 0, none⟩) 6 6) (w5.alloc (.cells #[.int .i64 300, .int .i64 200, .int .i64 250, .int .i64 1, .int .i64 330, .int .i64 q1] 3)) rfl rfl (by go_simp) S6 ?_
          go_simp
          refine mix_call _ 60 #[.pointer (some ⟨w.heap.size + 1, 0, none⟩), .slice (some ⟨w5.heap.size, 0, none⟩) 6 6] rfl rfl (by go_simp) ?_
          refine (among_new _ _ _ _ w5 _ _ hC5 rfl (by omega) (by rfl) (by decide) (by decide) (by simp [isI])).mono ?_
          rintro e w7 ⟨q2, rfl, _, hC7, hO7⟩
          have S7 : BxI w7 w2.heap.size v1 v2 := S5.only hO7 (by omega)
          have R7 := R5.only hO7 (by omega)
          have O7 := O5.trans hO7
          have I7 := I5.only hO7 (by omega)
          refine ⟨_, rfl, S7, ?_⟩
          go_simp
          have hl7 := S7.lt
          obtain ⟨r0, r1, rf, rl⟩ := R7
          refine mix_stores _ ((w7.setCell ⟨w.heap.size, 0, none⟩ (.int .i64 v1)).setCell ⟨w.heap.size, 1, none⟩ (.int .i64 v2)) rfl rfl (by go_simp) ((S7.other (by omega) _ _).other (by omega) _ _) ?_
          go_simp
          refine mix_look _ _ rfl rfl (fun w' _ => BigFrame.run_assign _ rfl w') ?_
          go_simp
          refine mix_look _ _ rfl rfl (fun w' _ => BigFrame.run_assign _ rfl w') ?_
          go_simp
          refine wpMix_nil ?_
          have hb : Below w.heap.size w w7 := O7.below (by omega) (Nat.le_refl _)
          have hbb : Below w.heap.size w ((w7.setCell ⟨w.heap.size, 0, none⟩ (.int .i64 v1)).setCell ⟨w.heap.size, 1, none⟩ (.int .i64 v2)) := (hb.setCell (Nat.le_refl _) _).setCell (Nat.le_refl _) _
          have I8 : IRow ((w7.setCell ⟨w.heap.size, 0, none⟩ (.int .i64 v1)).setCell ⟨w.heap.size, 1, none⟩ (.int .i64 v2)) w.heap.size 2 (.slice B k cp) k := (I7.keep (fun q h1 h2 => (Deep.blk_setCell_other _ _ _ _ (by show q ≠ w.heap.size; omega)).trans (Deep.blk_setCell_other _ _ _ _ (by show q ≠ w.heap.size; omega))) (by simp [World.setCell])).mono (by omega)
          go_wp2_with fail
          exact bodyPost_ret (v := .tuple #[.agg #[.int .i64 v1, .int .i64 v2], .slice B k cp, .int .i64 q2]) (by simp [results, Try.results36, go_sem, *]) rfl (rf_post I8 (by omega) hbb)
    | true =>
      go_wp2_with fail
      refine (pick_any _ _ _ _ hC7 (by omega)).mono ?_
      rintro e w8 ⟨v8, rfl, hv8, hC8, hO8⟩
      have hz8 := hO8.size
      (try (simp at hz8))
      have S8 := S7.only hO8 (by omega)
      have R8 := R7.only hO8 (by omega)
      have O8 := O7.trans hO8
      clear S7 R7 O7 hC7 hO8
      obtain ⟨K, hK, hK0, hK1⟩ : ∃ K : Int, K = 10 + v8 ∧ 0 ≤ K ∧ K ≤ 20 := ⟨10 + v8, rfl, by omega, by omega⟩
      have hC9 : Cu w8 (w.heap.size + 1) 100 := hC8.more (by omega)
      clear hC8
      have HS0 := hide S8
      have HR0 := hide R8
      clear S8 R8
      go_wp2_with fail
      (try rw [← hK])
      clear hK
      go_loopg [7] 25 (fun gn lv wr => ∃ (k : Nat) (B : Option Addr) (cp : Nat) (xs : List Value), (k : Int) ≤ K ∧ K.toNat - k < gn ∧ lv = .slice B k cp ∧ Hid (wr.ownsRow w2.heap.size.succ 26 2 (.slice B k cp) k xs) ∧ Hid (∀ u ∈ xs, isI u = true) ∧ Cu wr (w.heap.size + 1) (100 + 20 * k) ∧ Only (w.heap.size + 1) ((w.heap.size + 1) + 1) w wr ∧ Hid (BxI wr w2.heap.size v1 v2) ∧ Hid (BxI wr w.heap.size 0 0))
      case atStart => exact ⟨0, none, 0, [], by omega, by omega, rfl, World.ownsRow_nil _ _ _ _, fun u hu => by simp at hu, hC9, O8, HS0, HR0⟩
      case round =>
        obtain ⟨k, B, cp, xs, hk, hgn, rfl, hown, hxs, hCr, hOr, HS, HR⟩ := hrel
        have hzr := hOr.size
        have hlS := HS.out.lt
        by_cases hkn : (k : Int) < K
        · go_wp2_with fail
          refine (cylinder_any _ _ _ hCr (by omega)).mono ?_
          rintro e w1 ⟨cx, cy, rfl, hC1, hO1⟩
          have hown1 := row_only hown.out hO1 (by omega)
          have HS1 := hide (HS.out.only hO1 (by omega))
          have HR1 := hide (HR.out.only hO1 (by omega))
          have O1 := hOr.trans hO1
          have hz1 := hO1.size
          clear hown HS HR hOr hO1 hCr
          go_wp2_with (at_builtin; refine wpList_append_own _ rfl _ _ 30 rfl w2.heap.size.succ 26 i0 (.agg #[.int .i64 0, .int .i64 0]) 2 16 Try.underlying30 hi0 iz0 iz1 iz2 rfl (by decide) _ _ _ rfl (hown1.alloc _) ⟨w1.heap.size, 0, none⟩ 1 1 [.int .i64 cx, .int .i64 cy] rfl rfl ?_ ?_ ?_ ?_ ?_ ?_)
          · intro i u hu
            match i, hu with
            | 0, hu => simp at hu; subst hu; simp [go_sem, Addr.add]
            | 1, hu => simp at hu; subst hu; simp [go_sem, Addr.add]
          · intro u hu
            simp at hu
            rcases hu with rfl | rfl <;> rfl
          · unfold maxLen; omega
          · omega
          · simp; omega
          intro v' w5 hown2 hg2 _
          have hlt := hown1.lt
          have O5 : Only (w.heap.size + 1) ((w.heap.size + 1) + 1) w w5 := (O1.alloc _).grown hg2 (fun q hq => by have := (hlt q hq).1; omega)
          have hC5 : Cu w5 (w.heap.size + 1) _ := (hC1.alloc _).grown hg2 (fun q hq => by have := (hlt q hq).1; omega)
          have HS5 := hide ((HS1.out.alloc _).grown hg2 (fun q hq => by have := (hlt q hq).1; omega))
          have HR5 := hide ((HR1.out.alloc _).grown hg2 (fun q hq => by have := (hlt q hq).1; omega))
          obtain ⟨B2, cp2, rfl⟩ := row_form hown2
          have hxs2 : Hid (∀ u ∈ xs ++ [.int .i64 cx, .int .i64 cy], isI u = true) := fun u hu => by
            rcases List.mem_append.1 hu with h1 | h1
            · exact hxs.out u h1
            · simp at h1
              rcases h1 with rfl | rfl <;> rfl
          have hown3 := hide hown2
          clear hown1 hown2 hg2 hxs O1 hC1 HS1 HR1 hlt
          go_wp2_with fail
          go_roundg (K.toNat - k)
          case measure => omega
          case rel => exact ⟨k + 1, B2, cp2, _, by omega, by omega, rfl, hown3, hxs2, hC5.more (by omega), O5, HS5, HR5⟩
        · have hR : Hid (IRow wr w2.heap.size.succ 2 (.slice B k cp) k) := IRow.of_own hown.out hxs.out
          clear hown hxs
          have hlx : w2.heap.size.succ = w2.heap.size + 1 := rfl
          have HSd := HS.out.drew
          have HRd := HR.out.drew
          go_wp2_with fail
          refine wp_region_mix [(0, true), (1, true), (2, true), (3, true), (4, false), (5, false), (6, false), (7, false), (8, false), (9, true), (10, true)] (fun W => BxI W w2.heap.size v1 v2) (by kernel_rfl) (by kernel_rfl) (by kernel_rfl) (by kernel_rfl) HSd ?_
          refine mix_look _ (.agg #[.int .i64 v1, .int .i64 v2]) rfl rfl (fun w' hw' => (by obtain ⟨p0, p1, pf, pl⟩ := hw'; go_simp)) ?_
          go_simp
          refine mix_look _ _ rfl rfl (fun w' _ => BigFrame.run_move _ rfl w') ?_
          go_simp
          refine mix_look _ _ rfl rfl (fun w' _ => BigFrame.run_move _ rfl w') ?_
          go_simp
          refine mix_look _ _ rfl rfl (fun w' _ => BigFrame.run_move _ rfl w') ?_
          go_simp
          have SA : BxI (wr.drew.alloc (.cells #[.int .i64 0, .int .i64 331] 3)) w2.heap.size v1 v2 := HSd.alloc _
          refine mix_value _ (.slice (some ⟨wr.heap.size, 0, none⟩) 2 2) (wr.drew.alloc (.cells #[.int .i64 0, .int .i64 331] 3)) rfl rfl (by go_simp) SA ?_
          go_simp
          refine mix_call _ 60 #[.pointer (some ⟨w.heap.size + 1, 0, none⟩), .slice (some ⟨wr.heap.size, 0, none⟩) 2 2] rfl rfl (by go_simp) ?_
          refine (among_new _ _ _ _ wr.drew _ _ hCr.drew rfl (by omega) (by rfl) (by decide) (by decide) (by simp [isI])).mono ?_
          rintro e w5 ⟨q1, rfl, _, hC5, hO5⟩
          have S5 : BxI w5 w2.heap.size v1 v2 := HSd.only hO5 (by omega)
          have R5 : BxI w5 w.heap.size 0 0 := HRd.only hO5 (by omega)
          have O5 : Only (w.heap.size + 1) ((w.heap.size + 1) + 1) w w5 := hOr.trans (Only.trans (w' := wr.drew) ⟨rfl, rfl, rfl, Nat.le_refl _, fun _ _ _ => rfl⟩ hO5)
          have I5 := hR.out.drew.only hO5 (by omega)
          refine ⟨_, rfl, S5, ?_⟩
          go_simp
          have S6 : BxI (w5.alloc (.cells #[.int .i64 300, .int .i64 200, .int .i64 250, .int .i64 1, .int .i64 330, .int .i64 q1] 3)) w2.heap.size v1 v2 := S5.alloc _
          refine mix_value _ (.slice (some ⟨w5.heap.size, 0, none⟩) 6 6) (w5.alloc (.cells #[.int .i64 300, .int .i64 200, .int .i64 250, .int .i64 1, .int .i64 330, .int .i64 q1] 3)) rfl rfl (by go_simp) S6 ?_
          go_simp
          refine mix_call _ 60 #[.pointer (some ⟨w.heap.size + 1, 0, none⟩), .slice (some ⟨w5.heap.size, 0, none⟩) 6 6] rfl rfl (by go_simp) ?_
          refine (among_new _ _ _ _ w5 _ _ hC5 rfl (by omega) (by rfl) (by decide) (by decide) (by simp [isI])).mono ?_
          rintro e w7 ⟨q2, rfl, _, hC7, hO7⟩
          have S7 : BxI w7 w2.heap.size v1 v2 := S5.only hO7 (by omega)
          have R7 := R5.only hO7 (by omega)
          have O7 := O5.trans hO7
          have I7 := I5.only hO7 (by omega)
          refine ⟨_, rfl, S7, ?_⟩
          go_simp
          have hl7 := S7.lt
          obtain ⟨r0, r1, rf, rl⟩ := R7
          refine mix_stores _ ((w7.setCell ⟨w.heap.size, 0, none⟩ (.int .i64 v1)).setCell ⟨w.heap.size, 1, none⟩ (.int .i64 v2)) rfl rfl (by go_simp) ((S7.other (by omega) _ _).other (by omega) _ _) ?_
          go_simp
          refine mix_look _ _ rfl rfl (fun w' _ => BigFrame.run_assign _ rfl w') ?_
          go_simp
          refine mix_look _ _ rfl rfl (fun w' _ => BigFrame.run_assign _ rfl w') ?_
          go_simp
          refine wpMix_nil ?_
          have hb : Below w.heap.size w w7 := O7.below (by omega) (Nat.le_refl _)
          have hbb : Below w.heap.size w ((w7.setCell ⟨w.heap.size, 0, none⟩ (.int .i64 v1)).setCell ⟨w.heap.size, 1, none⟩ (.int .i64 v2)) := (hb.setCell (Nat.le_refl _) _).setCell (Nat.le_refl _) _
          have I8 : IRow ((w7.setCell ⟨w.heap.size, 0, none⟩ (.int .i64 v1)).setCell ⟨w.heap.size, 1, none⟩ (.int .i64 v2)) w.heap.size 2 (.slice B k cp) k := (I7.keep (fun q h1 h2 => (Deep.blk_setCell_other _ _ _ _ (by show q ≠ w.heap.size; omega)).trans (Deep.blk_setCell_other _ _ _ _ (by show q ≠ w.heap.size; omega))) (by simp [World.setCell])).mono (by omega)
          go_wp2_with fail
          exact bodyPost_ret (v := .tuple #[.agg #[.int .i64 v1, .int .i64 v2], .slice B k cp, .int .i64 q2]) (by simp [results, Try.results36, go_sem, *]) rfl (rf_post I8 (by omega) hbb)
  | true =>
    go_wp2_with fail
    refine (cylinder_any _ _ _ hC4 (by omega)).mono ?_
    rintro e w5 ⟨bx, by_, rfl, hC5, hO5⟩
    have hz5 := hO5.size
    have S5 := S4.only hO5 (by omega)
    have R5 := R4.only hO5 (by omega)
    have O5 := O4.trans hO5
    clear S4 R4 O4 hC4 hO5
    obtain ⟨p0, p1, pf, pl⟩ := id S5
    have T5 := (S5.set0 bx).set1 by_
    have U5 := (R5.other (b' := w2.heap.size) (by omega) 0 (.int .i64 bx)).other (b' := w2.heap.size) (by omega) 1 (.int .i64 by_)
    have hD5 := (hC5.set (p := ⟨w2.heap.size, 0, none⟩) (by show (w.heap.size + 1) < w2.heap.size; omega) (.int .i64 bx)).set (p := ⟨w2.heap.size, 1, none⟩) (by show (w.heap.size + 1) < w2.heap.size; omega) (.int .i64 by_)
    have P5 := (O5.setNew (a := ⟨w2.heap.size, 0, none⟩) (by show w.heap.size ≤ w2.heap.size; omega) (.int .i64 bx)).setNew (a := ⟨w2.heap.size, 1, none⟩) (by show w.heap.size ≤ w2.heap.size; omega) (.int .i64 by_)
    clear S5 R5 hC5 O5
    go_wp2_with fail
    refine (pick_any _ _ _ _ hD5 (by omega)).mono ?_
    rintro e w6 ⟨v6, rfl, hv6, hC6, hO6⟩
    have hz6 := hO6.size
    (try (simp at hz6))
    have S6 := T5.only hO6 (by omega)
    have R6 := U5.only hO6 (by omega)
    have O6 := P5.trans hO6
    clear T5 U5 P5 hD5 hO6
    go_wp2_with fail
    refine (one_any _ _ _ _ hC6 (by omega)).mono ?_
    rintro e w7 ⟨b7, rfl, hC7, hO7⟩
    have hz7 := hO7.size
    (try (simp at hz7))
    have S7 := S6.only hO7 (by omega)
    have R7 := R6.only hO7 (by omega)
    have O7 := O6.trans hO7
    clear S6 R6 O6 hC6 hO7
    cases b7 with
    | false =>
      obtain ⟨K, hK⟩ : ∃ K : Int, K = v6 ∧ 0 ≤ K ∧ K ≤ 20 := ⟨v6, rfl, by omega⟩
      obtain ⟨rfl, hK0, hK1⟩ := hK
      have hC8 : Cu w7 (w.heap.size + 1) 100 := hC7.more (by omega)
      clear hC7
      have HS0 := hide S7
      have HR0 := hide R7
      clear S7 R7
      go_wp2_with fail
      go_loopg [7] 25 (fun gn lv wr => ∃ (k : Nat) (B : Option Addr) (cp : Nat) (xs : List Value), (k : Int) ≤ K ∧ K.toNat - k < gn ∧ lv = .slice B k cp ∧ Hid (wr.ownsRow w2.heap.size.succ 26 2 (.slice B k cp) k xs) ∧ Hid (∀ u ∈ xs, isI u = true) ∧ Cu wr (w.heap.size + 1) (100 + 20 * k) ∧ Only (w.heap.size + 1) ((w.heap.size + 1) + 1) w wr ∧ Hid (BxI wr w2.heap.size bx by_) ∧ Hid (BxI wr w.heap.size 0 0))
      case atStart => exact ⟨0, none, 0, [], by omega, by omega, rfl, World.ownsRow_nil _ _ _ _, fun u hu => by simp at hu, hC8, O7, HS0, HR0⟩
      case round =>
        obtain ⟨k, B, cp, xs, hk, hgn, rfl, hown, hxs, hCr, hOr, HS, HR⟩ := hrel
        have hzr := hOr.size
        have hlS := HS.out.lt
        by_cases hkn : (k : Int) < K
        · go_wp2_with fail
          refine (cylinder_any _ _ _ hCr (by omega)).mono ?_
          rintro e w1 ⟨cx, cy, rfl, hC1, hO1⟩
          have hown1 := row_only hown.out hO1 (by omega)
          have HS1 := hide (HS.out.only hO1 (by omega))
          have HR1 := hide (HR.out.only hO1 (by omega))
          have O1 := hOr.trans hO1
          have hz1 := hO1.size
          clear hown HS HR hOr hO1 hCr
          go_wp2_with (at_builtin; refine wpList_append_own _ rfl _ _ 30 rfl w2.heap.size.succ 26 i0 (.agg #[.int .i64 0, .int .i64 0]) 2 16 Try.underlying30 hi0 iz0 iz1 iz2 rfl (by decide) _ _ _ rfl (hown1.alloc _) ⟨w1.heap.size, 0, none⟩ 1 1 [.int .i64 cx, .int .i64 cy] rfl rfl ?_ ?_ ?_ ?_ ?_ ?_)
          · intro i u hu
            match i, hu with
            | 0, hu => simp at hu; subst hu; simp [go_sem, Addr.add]
            | 1, hu => simp at hu; subst hu; simp [go_sem, Addr.add]
          · intro u hu
            simp at hu
            rcases hu with rfl | rfl <;> rfl
          · unfold maxLen; omega
          · omega
          · simp; omega
          intro v' w5 hown2 hg2 _
          have hlt := hown1.lt
          have O5 : Only (w.heap.size + 1) ((w.heap.size + 1) + 1) w w5 := (O1.alloc _).grown hg2 (fun q hq => by have := (hlt q hq).1; omega)
          have hC5 : Cu w5 (w.heap.size + 1) _ := (hC1.alloc _).grown hg2 (fun q hq => by have := (hlt q hq).1; omega)
          have HS5 := hide ((HS1.out.alloc _).grown hg2 (fun q hq => by have := (hlt q hq).1; omega))
          have HR5 := hide ((HR1.out.alloc _).grown hg2 (fun q hq => by have := (hlt q hq).1; omega))
          obtain ⟨B2, cp2, rfl⟩ := row_form hown2
          have hxs2 : Hid (∀ u ∈ xs ++ [.int .i64 cx, .int .i64 cy], isI u = true) := fun u hu => by
            rcases List.mem_append.1 hu with h1 | h1
            · exact hxs.out u h1
            · simp at h1
              rcases h1 with rfl | rfl <;> rfl
          have hown3 := hide hown2
          clear hown1 hown2 hg2 hxs O1 hC1 HS1 HR1 hlt
          go_wp2_with fail
          go_roundg (K.toNat - k)
          case measure => omega
          case rel => exact ⟨k + 1, B2, cp2, _, by omega, by omega, rfl, hown3, hxs2, hC5.more (by omega), O5, HS5, HR5⟩
        · have hR : Hid (IRow wr w2.heap.size.succ 2 (.slice B k cp) k) := IRow.of_own hown.out hxs.out
          clear hown hxs
          have hlx : w2.heap.size.succ = w2.heap.size + 1 := rfl
          have HSd := HS.out.drew
          have HRd := HR.out.drew
          go_wp2_with fail
          refine wp_region_mix [(0, true), (1, true), (2, true), (3, true), (4, false), (5, false), (6, false), (7, false), (8, false), (9, true), (10, true)] (fun W => BxI W w2.heap.size bx by_) (by kernel_rfl) (by kernel_rfl) (by kernel_rfl) (by kernel_rfl) HSd ?_
          refine mix_look _ (.agg #[.int .i64 bx, .int .i64 by_]) rfl rfl (fun w' hw' => (by obtain ⟨p0, p1, pf, pl⟩ := hw'; go_simp)) ?_
          go_simp
          refine mix_look _ _ rfl rfl (fun w' _ => BigFrame.run_move _ rfl w') ?_
          go_simp
          refine mix_look _ _ rfl rfl (fun w' _ => BigFrame.run_move _ rfl w') ?_
          go_simp
          refine mix_look _ _ rfl rfl (fun w' _ => BigFrame.run_move _ rfl w') ?_
          go_simp
          have SA : BxI (wr.drew.alloc (.cells #[.int .i64 0, .int .i64 331] 3)) w2.heap.size bx by_ := HSd.alloc _
          refine mix_value _ (.slice (some ⟨wr.heap.size, 0, none⟩) 2 2) (wr.drew.alloc (.cells #[.int .i64 0, .int .i64 331] 3)) rfl rfl (by go_simp) SA ?_
          go_simp
          refine mix_call _ 60 #[.pointer (some ⟨w.heap.size + 1, 0, none⟩), .slice (some ⟨wr.heap.size, 0, none⟩) 2 2] rfl rfl (by go_simp) ?_
          refine (among_new _ _ _ _ wr.drew _ _ hCr.drew rfl (by omega) (by rfl) (by decide) (by decide) (by simp [isI])).mono ?_
          rintro e w5 ⟨q1, rfl, _, hC5, hO5⟩
          have S5 : BxI w5 w2.heap.size bx by_ := HSd.only hO5 (by omega)
          have R5 : BxI w5 w.heap.size 0 0 := HRd.only hO5 (by omega)
          have O5 : Only (w.heap.size + 1) ((w.heap.size + 1) + 1) w w5 := hOr.trans (Only.trans (w' := wr.drew) ⟨rfl, rfl, rfl, Nat.le_refl _, fun _ _ _ => rfl⟩ hO5)
          have I5 := hR.out.drew.only hO5 (by omega)
          refine ⟨_, rfl, S5, ?_⟩
          go_simp
          have S6 : BxI (w5.alloc (.cells #[.int .i64 300, .int .i64 200, .int .i64 250, .int .i64 1, .int .i64 330, .int .i64 q1] 3)) w2.heap.size bx by_ := S5.alloc _
          refine mix_value _ (.slice (some ⟨w5.heap.size, 0, none⟩) 6 6) (w5.alloc (.cells #[.int .i64 300, .int .i64 200, .int .i64 250, .int .i64 1, .int .i64 330, .int .i64 q1] 3)) rfl rfl (by go_simp) S6 ?_
          go_simp
          refine mix_call _ 60 #[.pointer (some ⟨w.heap.size + 1, 0, none⟩), .slice (some ⟨w5.heap.size, 0, none⟩) 6 6] rfl rfl (by go_simp) ?_
          refine (among_new _ _ _ _ w5 _ _ hC5 rfl (by omega) (by rfl) (by decide) (by decide) (by simp [isI])).mono ?_
          rintro e w7 ⟨q2, rfl, _, hC7, hO7⟩
          have S7 : BxI w7 w2.heap.size bx by_ := S5.only hO7 (by omega)
          have R7 := R5.only hO7 (by omega)
          have O7 := O5.trans hO7
          have I7 := I5.only hO7 (by omega)
          refine ⟨_, rfl, S7, ?_⟩
          go_simp
          have hl7 := S7.lt
          obtain ⟨r0, r1, rf, rl⟩ := R7
          refine mix_stores _ ((w7.setCell ⟨w.heap.size, 0, none⟩ (.int .i64 bx)).setCell ⟨w.heap.size, 1, none⟩ (.int .i64 by_)) rfl rfl (by go_simp) ((S7.other (by omega) _ _).other (by omega) _ _) ?_
          go_simp
          refine mix_look _ _ rfl rfl (fun w' _ => BigFrame.run_assign _ rfl w') ?_
          go_simp
          refine mix_look _ _ rfl rfl (fun w' _ => BigFrame.run_assign _ rfl w') ?_
          go_simp
          refine wpMix_nil ?_
          have hb : Below w.heap.size w w7 := O7.below (by omega) (Nat.le_refl _)
          have hbb : Below w.heap.size w ((w7.setCell ⟨w.heap.size, 0, none⟩ (.int .i64 bx)).setCell ⟨w.heap.size, 1, none⟩ (.int .i64 by_)) := (hb.setCell (Nat.le_refl _) _).setCell (Nat.le_refl _) _
          have I8 : IRow ((w7.setCell ⟨w.heap.size, 0, none⟩ (.int .i64 bx)).setCell ⟨w.heap.size, 1, none⟩ (.int .i64 by_)) w.heap.size 2 (.slice B k cp) k := (I7.keep (fun q h1 h2 => (Deep.blk_setCell_other _ _ _ _ (by show q ≠ w.heap.size; omega)).trans (Deep.blk_setCell_other _ _ _ _ (by show q ≠ w.heap.size; omega))) (by simp [World.setCell])).mono (by omega)
          go_wp2_with fail
          exact bodyPost_ret (v := .tuple #[.agg #[.int .i64 bx, .int .i64 by_], .slice B k cp, .int .i64 q2]) (by simp [results, Try.results36, go_sem, *]) rfl (rf_post I8 (by omega) hbb)
    | true =>
      go_wp2_with fail
      refine (pick_any _ _ _ _ hC7 (by omega)).mono ?_
      rintro e w8 ⟨v8, rfl, hv8, hC8, hO8⟩
      have hz8 := hO8.size
      (try (simp at hz8))
      have S8 := S7.only hO8 (by omega)
      have R8 := R7.only hO8 (by omega)
      have O8 := O7.trans hO8
      clear S7 R7 O7 hC7 hO8
      obtain ⟨K, hK, hK0, hK1⟩ : ∃ K : Int, K = 10 + v8 ∧ 0 ≤ K ∧ K ≤ 20 := ⟨10 + v8, rfl, by omega, by omega⟩
      have hC9 : Cu w8 (w.heap.size + 1) 100 := hC8.more (by omega)
      clear hC8
      have HS0 := hide S8
      have HR0 := hide R8
      clear S8 R8
      go_wp2_with fail
      (try rw [← hK])
      clear hK
      go_loopg [7] 25 (fun gn lv wr => ∃ (k : Nat) (B : Option Addr) (cp : Nat) (xs : List Value), (k : Int) ≤ K ∧ K.toNat - k < gn ∧ lv = .slice B k cp ∧ Hid (wr.ownsRow w2.heap.size.succ 26 2 (.slice B k cp) k xs) ∧ Hid (∀ u ∈ xs, isI u = true) ∧ Cu wr (w.heap.size + 1) (100 + 20 * k) ∧ Only (w.heap.size + 1) ((w.heap.size + 1) + 1) w wr ∧ Hid (BxI wr w2.heap.size bx by_) ∧ Hid (BxI wr w.heap.size 0 0))
      case atStart => exact ⟨0, none, 0, [], by omega, by omega, rfl, World.ownsRow_nil _ _ _ _, fun u hu => by simp at hu, hC9, O8, HS0, HR0⟩
      case round =>
        obtain ⟨k, B, cp, xs, hk, hgn, rfl, hown, hxs, hCr, hOr, HS, HR⟩ := hrel
        have hzr := hOr.size
        have hlS := HS.out.lt
        by_cases hkn : (k : Int) < K
        · go_wp2_with fail
          refine (cylinder_any _ _ _ hCr (by omega)).mono ?_
          rintro e w1 ⟨cx, cy, rfl, hC1, hO1⟩
          have hown1 := row_only hown.out hO1 (by omega)
          have HS1 := hide (HS.out.only hO1 (by omega))
          have HR1 := hide (HR.out.only hO1 (by omega))
          have O1 := hOr.trans hO1
          have hz1 := hO1.size
          clear hown HS HR hOr hO1 hCr
          go_wp2_with (at_builtin; refine wpList_append_own _ rfl _ _ 30 rfl w2.heap.size.succ 26 i0 (.agg #[.int .i64 0, .int .i64 0]) 2 16 Try.underlying30 hi0 iz0 iz1 iz2 rfl (by decide) _ _ _ rfl (hown1.alloc _) ⟨w1.heap.size, 0, none⟩ 1 1 [.int .i64 cx, .int .i64 cy] rfl rfl ?_ ?_ ?_ ?_ ?_ ?_)
          · intro i u hu
            match i, hu with
            | 0, hu => simp at hu; subst hu; simp [go_sem, Addr.add]
            | 1, hu => simp at hu; subst hu; simp [go_sem, Addr.add]
          · intro u hu
            simp at hu
            rcases hu with rfl | rfl <;> rfl
          · unfold maxLen; omega
          · omega
          · simp; omega
          intro v' w5 hown2 hg2 _
          have hlt := hown1.lt
          have O5 : Only (w.heap.size + 1) ((w.heap.size + 1) + 1) w w5 := (O1.alloc _).grown hg2 (fun q hq => by have := (hlt q hq).1; omega)
          have hC5 : Cu w5 (w.heap.size + 1) _ := (hC1.alloc _).grown hg2 (fun q hq => by have := (hlt q hq).1; omega)
          have HS5 := hide ((HS1.out.alloc _).grown hg2 (fun q hq => by have := (hlt q hq).1; omega))
          have HR5 := hide ((HR1.out.alloc _).grown hg2 (fun q hq => by have := (hlt q hq).1; omega))
          obtain ⟨B2, cp2, rfl⟩ := row_form hown2
          have hxs2 : Hid (∀ u ∈ xs ++ [.int .i64 cx, .int .i64 cy], isI u = true) := fun u hu => by
            rcases List.mem_append.1 hu with h1 | h1
            · exact hxs.out u h1
            · simp at h1
              rcases h1 with rfl | rfl <;> rfl
          have hown3 := hide hown2
          clear hown1 hown2 hg2 hxs O1 hC1 HS1 HR1 hlt
          go_wp2_with fail
          go_roundg (K.toNat - k)
          case measure => omega
          case rel => exact ⟨k + 1, B2, cp2, _, by omega, by omega, rfl, hown3, hxs2, hC5.more (by omega), O5, HS5, HR5⟩
        · have hR : Hid (IRow wr w2.heap.size.succ 2 (.slice B k cp) k) := IRow.of_own hown.out hxs.out
          clear hown hxs
          have hlx : w2.heap.size.succ = w2.heap.size + 1 := rfl
          have HSd := HS.out.drew
          have HRd := HR.out.drew
          go_wp2_with fail
          refine wp_region_mix [(0, true), (1, true), (2, true), (3, true), (4, false), (5, false), (6, false), (7, false), (8, false), (9, true), (10, true)] (fun W => BxI W w2.heap.size bx by_) (by kernel_rfl) (by kernel_rfl) (by kernel_rfl) (by kernel_rfl) HSd ?_
          refine mix_look _ (.agg #[.int .i64 bx, .int .i64 by_]) rfl rfl (fun w' hw' => (by obtain ⟨p0, p1, pf, pl⟩ := hw'; go_simp)) ?_
          go_simp
          refine mix_look _ _ rfl rfl (fun w' _ => BigFrame.run_move _ rfl w') ?_
          go_simp
          refine mix_look _ _ rfl rfl (fun w' _ => BigFrame.run_move _ rfl w') ?_
          go_simp
          refine mix_look _ _ rfl rfl (fun w' _ => BigFrame.run_move _ rfl w') ?_
          go_simp
          have SA : BxI (wr.drew.alloc (.cells #[.int .i64 0, .int .i64 331] 3)) w2.heap.size bx by_ := HSd.alloc _
          refine mix_value _ (.slice (some ⟨wr.heap.size, 0, none⟩) 2 2) (wr.drew.alloc (.cells #[.int .i64 0, .int .i64 331] 3)) rfl rfl (by go_simp) SA ?_
          go_simp
          refine mix_call _ 60 #[.pointer (some ⟨w.heap.size + 1, 0, none⟩), .slice (some ⟨wr.heap.size, 0, none⟩) 2 2] rfl rfl (by go_simp) ?_
          refine (among_new _ _ _ _ wr.drew _ _ hCr.drew rfl (by omega) (by rfl) (by decide) (by decide) (by simp [isI])).mono ?_
          rintro e w5 ⟨q1, rfl, _, hC5, hO5⟩
          have S5 : BxI w5 w2.heap.size bx by_ := HSd.only hO5 (by omega)
          have R5 : BxI w5 w.heap.size 0 0 := HRd.only hO5 (by omega)
          have O5 : Only (w.heap.size + 1) ((w.heap.size + 1) + 1) w w5 := hOr.trans (Only.trans (w' := wr.drew) ⟨rfl, rfl, rfl, Nat.le_refl _, fun _ _ _ => rfl⟩ hO5)
          have I5 := hR.out.drew.only hO5 (by omega)
          refine ⟨_, rfl, S5, ?_⟩
          go_simp
          have S6 : BxI (w5.alloc (.cells #[.int .i64 300, .int .i64 200, .int .i64 250, .int .i64 1, .int .i64 330, .int .i64 q1] 3)) w2.heap.size bx by_ := S5.alloc _
          refine mix_value _ (.slice (some ⟨w5.heap.size, 0, none⟩) 6 6) (w5.alloc (.cells #[.int .i64 300, .int .i64 200, .int .i64 250, .int .i64 1, .int .i64 330, .int .i64 q1] 3)) rfl rfl (by go_simp) S6 ?_
          go_simp
          refine mix_call _ 60 #[.pointer (some ⟨w.heap.size + 1, 0, none⟩), .slice (some ⟨w5.heap.size, 0, none⟩) 6 6] rfl rfl (by go_simp) ?_
          refine (among_new _ _ _ _ w5 _ _ hC5 rfl (by omega) (by rfl) (by decide) (by decide) (by simp [isI])).mono ?_
          rintro e w7 ⟨q2, rfl, _, hC7, hO7⟩
          have S7 : BxI w7 w2.heap.size bx by_ := S5.only hO7 (by omega)
          have R7 := R5.only hO7 (by omega)
          have O7 := O5.trans hO7
          have I7 := I5.only hO7 (by omega)
          refine ⟨_, rfl, S7, ?_⟩
          go_simp
          have hl7 := S7.lt
          obtain ⟨r0, r1, rf, rl⟩ := R7
          refine mix_stores _ ((w7.setCell ⟨w.heap.size, 0, none⟩ (.int .i64 bx)).setCell ⟨w.heap.size, 1, none⟩ (.int .i64 by_)) rfl rfl (by go_simp) ((S7.other (by omega) _ _).other (by omega) _ _) ?_
          go_simp
          refine mix_look _ _ rfl rfl (fun w' _ => BigFrame.run_assign _ rfl w') ?_
          go_simp
          refine mix_look _ _ rfl rfl (fun w' _ => BigFrame.run_assign _ rfl w') ?_
          go_simp
          refine wpMix_nil ?_
          have hb : Below w.heap.size w w7 := O7.below (by omega) (Nat.le_refl _)
          have hbb : Below w.heap.size w ((w7.setCell ⟨w.heap.size, 0, none⟩ (.int .i64 bx)).setCell ⟨w.heap.size, 1, none⟩ (.int .i64 by_)) := (hb.setCell (Nat.le_refl _) _).setCell (Nat.le_refl _) _
          have I8 : IRow ((w7.setCell ⟨w.heap.size, 0, none⟩ (.int .i64 bx)).setCell ⟨w.heap.size, 1, none⟩ (.int .i64 by_)) w.heap.size 2 (.slice B k cp) k := (I7.keep (fun q h1 h2 => (Deep.blk_setCell_other _ _ _ _ (by show q ≠ w.heap.size; omega)).trans (Deep.blk_setCell_other _ _ _ _ (by show q ≠ w.heap.size; omega))) (by simp [World.setCell])).mono (by omega)
          go_wp2_with fail
          exact bodyPost_ret (v := .tuple #[.agg #[.int .i64 bx, .int .i64 by_], .slice B k cp, .int .i64 q2]) (by simp [results, Try.results36, go_sem, *]) rfl (rf_post I8 (by omega) hbb)

end Go.Proofs.Yteoolhoncgaapaa
