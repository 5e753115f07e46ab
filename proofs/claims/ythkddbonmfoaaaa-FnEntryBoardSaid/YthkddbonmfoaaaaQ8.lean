/-
  Texts of this proof, one behind the other (part 8).
-/
import Derived.Test.YthkddbonmfoaaaaQ7
/-
  Walks: drawn arguments of the laws on one team: a team and a minute (printed by gen_drwe3.py).-/
namespace Go.Proofs.Ythkddbonmfoaaaa
set_option linter.unusedVariables false
set_option linter.unusedSimpArgs false
open Go.RowKit Go.Deep

set_option maxRecDepth 100000 in
set_option maxHeartbeats 6400000 in
theorem DrawTeamState_any (v : Value) (w : World) (h : Code w v) : Calls Try.prog 16 #[v] w (DtkPost w) := by
  obtain ⟨A, n, cap, rfl⟩ := h.form
  have hC0 : Cu ((w.alloc (.cells #[.string ⟨#[]⟩, .int .i64 0, .int .i64 0, .slice none 0 0] 26)).alloc (.cells #[.slice A n cap, .int .i64 0, .int .u64 0] 58)) (w.heap.size + 1) 0 := by
    have := Cu.start (h.below ((Below.refl _ _).alloc (Nat.le_refl _) (.cells #[.string ⟨#[]⟩, .int .i64 0, .int .i64 0, .slice none 0 0] 26)) (Nat.le_refl _)) 58
    simpa using this
  have R0 : BxT ((w.alloc (.cells #[.string ⟨#[]⟩, .int .i64 0, .int .i64 0, .slice none 0 0] 26)).alloc (.cells #[.slice A n cap, .int .i64 0, .int .u64 0] 58)) w.heap.size ⟨#[]⟩ 0 0 (.slice none 0 0) := (BxT.new w _ _ _ _ _).alloc _
  have O0 : Only (w.heap.size + 1) (w.heap.size + 1 + 1) w ((w.alloc (.cells #[.string ⟨#[]⟩, .int .i64 0, .int .i64 0, .slice none 0 0] 26)).alloc (.cells #[.slice A n cap, .int .i64 0, .int .u64 0] 58)) := ((Only.refl _ _ w).alloc _).alloc _
  go_enter Try.func16, Try.ntmps16
  go_wp2_with fail
  refine (team_any _ _ _ _ hC0 (by omega)).mono ?_
  rintro e w2 ⟨x, y, u, n2, rfl, I2, hn2, hC2, hO2⟩
  have R2 := R0.only hO2 (by omega)
  have O2 := O0.trans hO2
  have hl2 := R2.lt
  obtain ⟨f, k, hsl⟩ := I2.sl2
  obtain ⟨A2, c2, rfl⟩ := I2.form
  obtain ⟨s, hs⟩ : ∃ s : ByteArray, s = ⟨#[97]⟩ := ⟨_, rfl⟩
  have hss : s.size = 1 := by rw [hs]; rfl
  rw [← hs]
  have hb2 : Below w.heap.size w w2 := O2.below (by omega) (Nat.le_refl _)
  have hC2' := hC2
  obtain ⟨T, hT⟩ : ∃ T : Tm, T = ⟨s, x, y, n2, f, k⟩ := ⟨_, rfl⟩
  have HT : Hid (T.s = s ∧ T.v = x ∧ T.y = y ∧ T.n = n2 ∧ T.m = f ∧ T.b = k) := by rw [hT]; exact ⟨rfl, rfl, rfl, rfl, rfl, rfl⟩
  have HF : Hid T.fits := by rw [hT]; exact ⟨by unfold maxLen; show s.size ≤ _; omega, by show n2 ≤ 1048576; omega⟩
  have hsz0 : ((w.alloc (.cells #[.string ⟨#[]⟩, .int .i64 0, .int .i64 0, .slice none 0 0] 26)).alloc (.cells #[.slice A n cap, .int .i64 0, .int .u64 0] 58)).heap.size = w.heap.size + 1 + 1 := by simp
  rw [hsz0] at hsl
  have HSL : Hid (Sl w2 (w.heap.size + 1 + 1) w2.heap.size 2 (.slice A2 n2 c2) T.n (iiC T.m T.b)) := by
    show Sl _ _ _ _ _ _ _
    rw [HT.out.2.2.2.1, HT.out.2.2.2.2.1, HT.out.2.2.2.2.2]
    exact hsl
  clear R0 O0 hO2 hC0 I2 hsl hT hs hC2 hsz0
  go_wp2_with fail
  obtain ⟨W3, hW3⟩ : ∃ W, W = w2.alloc (.cells #[.string s, .int .i64 x, .int .i64 y, .slice A2 n2 c2] 26) := ⟨_, rfl⟩
  obtain ⟨tb, htb⟩ : ∃ tb, tb = w2.heap.size := ⟨_, rfl⟩
  have bw3 : Below w2.heap.size w2 W3 := by rw [hW3]; exact (Below.refl _ _).alloc (Nat.le_refl _) _
  have T3 : Hid (BxT W3 tb s x y (.slice A2 n2 c2)) := by show BxT _ _ _ _ _ _; rw [hW3, htb]; exact BxT.new _ _ _ _ _ _
  have R3 := hide (R2.below bw3)
  have C3 : Hid (Cu W3 (w.heap.size + 1) 300) := (hC2'.below bw3 (Nat.le_refl _)).more (by omega)
  have HB3 : Hid (Below w.heap.size w W3) := hb2.trans (bw3.mono hb2.size)
  have S3 : Hid (Sl W3 (w.heap.size + 1 + 1) W3.heap.size 2 (.slice A2 n2 c2) T.n (iiC T.m T.b)) := (HSL.out.below bw3 (Nat.le_refl _)).mono (Nat.le_refl _) bw3.size
  have htl : w.heap.size < tb := by omega
  have htc : tb ≠ w.heap.size + 1 := by have := HSL.out; have := hC2'.lt; omega
  rw [← hW3, ← htb]
  clear hW3 htb bw3 R2 O2 hb2 hC2' HSL hl2
  obtain ⟨e1, e2, e3, e4, e5, e6⟩ := HT.out
  rw [← e1, ← e2, ← e3] at T3
  rw [← e1, ← e2, ← e3]
  clear e1 e2 e3 e4 e5 e6
  obtain ⟨t0, t1, t2, t3, tf, tl⟩ := T3.out
  go_wp2_with fail
  refine (enOne_any T _ _ _ _ S3.out (Nat.le_refl _) HF.out).mono ?_
  rintro e w4 ⟨rfl, hb4⟩
  have T4 := hide (T3.out.below hb4)
  have R4 := hide (R3.out.below hb4)
  have C4 := hide (C3.out.below hb4 (Nat.le_refl _))
  have HB4 : Hid (Below w.heap.size w w4) := HB3.out.trans (hb4.mono HB3.out.size)
  have S4 : Hid (Sl w4 (w.heap.size + 1 + 1) w4.heap.size 2 (.slice A2 n2 c2) T.n (iiC T.m T.b)) := (S3.out.below hb4 (Nat.le_refl _)).mono (Nat.le_refl _) hb4.size
  clear T3 R3 C3 HB3 S3
  clear t0 t1 t2 t3 tf tl hb4
  cases hB : tmB T with
  | false =>
    go_wp2_with fail
    have Td := T4.out.below (w' := w4.drew) (Below.drew (Below.refl _ _))
    refine wp_region_mix [(0, true), (1, true), (2, false), (3, false), (4, true)] (fun W => BxT W tb T.s T.v T.y (.slice A2 n2 c2)) (by kernel_rfl) (by kernel_rfl) (by kernel_rfl) (by kernel_rfl) Td ?_
    refine mix_look _ (.agg #[.string T.s, .int .i64 T.v, .int .i64 T.y, .slice A2 n2 c2]) rfl rfl (fun w' hw' => (by obtain ⟨a0, a1, a2, a3, af, al⟩ := hw'; go_simp)) ?_
    go_simp
    refine mix_look _ _ rfl rfl (fun w' _ => BigFrame.run_move _ rfl w') ?_
    go_simp
    refine mix_call _ 45 #[.pointer (some ⟨w.heap.size + 1, 0, none⟩)] rfl rfl (by go_simp) ?_
    refine (boardMinute_any _ _ _ (Cu.drew C4.out) (by omega)).mono ?_
    rintro e w9 ⟨v9, rfl, C9, o9'⟩
    have o9 : Only (w.heap.size + 1) (w.heap.size + 1 + 1) w4 w9 := Only.trans (w' := w4.drew) ⟨rfl, rfl, rfl, Nat.le_refl _, fun _ _ _ => rfl⟩ o9'
    have T9 := hide (T4.out.only o9 htc)
    have R9 := hide (R4.out.only o9 (by omega))
    have HB9 : Hid (Below w.heap.size w w9) := HB4.out.trans (o9.below (by omega) HB4.out.size)
    have S9 : Hid (Sl w9 (w.heap.size + 1 + 1) w9.heap.size 2 (.slice A2 n2 c2) T.n (iiC T.m T.b)) := (S4.out.keep fun q h1 h2 => o9.block q h2 (by omega)).mono (Nat.le_refl _) o9.size
    clear T4 R4 HB4 S4
    refine ⟨_, rfl, T9.out, ?_⟩
    go_simp
    obtain ⟨r0, r1, r2, r3, rf, rl⟩ := R9.out
    have hov := four_set w9 w.heap.size (.string T.s) (.int .i64 T.v) (.int .i64 T.y) (.slice A2 n2 c2)
    obtain ⟨WF, hWF⟩ : ∃ W, W = ((((w9).setCell ⟨w.heap.size, 0, none⟩ (.string T.s)).setCell ⟨w.heap.size, 1, none⟩ (.int .i64 T.v)).setCell ⟨w.heap.size, 2, none⟩ (.int .i64 T.y)).setCell ⟨w.heap.size, 3, none⟩ (.slice A2 n2 c2) := ⟨_, rfl⟩
    rw [← hWF] at hov
    have HSF : Hid (Sl WF w.heap.size WF.heap.size 2 (.slice A2 n2 c2) T.n (iiC T.m T.b)) := (sl_over S9.out hov.1 (by omega) (by rw [hov.2]; exact Nat.le_refl _)).mono (by omega) (Nat.le_refl _)
    have HBF : Hid (Below w.heap.size w WF) := by show Below _ _ _; rw [hWF]; exact four_below HB9.out (Nat.le_refl _) _ _ _ _
    have RF : Hid (BxT WF w.heap.size T.s T.v T.y (.slice A2 n2 c2)) := by
      show BxT _ _ _ _ _ _
      rw [hWF]
      exact ⟨by simp [go_sem, r0, r1, r2, r3], by simp [go_sem, r0, r1, r2, r3], by simp [go_sem, r0, r1, r2, r3], by simp [go_sem, r0, r1, r2, r3], fun o => by simp [go_sem, rf], by simp [World.setCell]; exact rl⟩
    have TF : Hid (BxT WF tb T.s T.v T.y (.slice A2 n2 c2)) := T9.out.keep (hov.1 tb (by omega)) (by rw [hov.2]; exact Nat.le_refl _)
    have HWF := hide hWF
    clear hWF hov
    refine mix_store _ WF rfl rfl (by rw [HWF.out]; go_simp) TF.out ?_
    go_simp
    refine mix_look _ _ rfl rfl (fun w' _ => BigFrame.run_assign _ rfl w') ?_
    go_simp
    refine wpMix_nil ?_
    clear r0 r1 r2 r3 rf rl
    obtain ⟨r0, r1, r2, r3, rf, rl⟩ := RF.out
    go_wp2_with fail
    exact bodyPost_ret (v := .tuple #[.agg #[.string T.s, .int .i64 T.v, .int .i64 T.y, .slice A2 n2 c2], .int .i64 (v9)]) (by simp [results, Try.results16, go_sem, *]) rfl ⟨T, .slice A2 n2 c2, _, rfl, HSF.out, HF.out, HBF.out⟩
  | true =>
    have HTB := hide hB
    clear hB
    go_wp2_with fail
    refine (one_any _ _ _ _ C4.out (by omega)).mono ?_
    rintro e w5 ⟨b5, rfl, C5', o5⟩
    have C5 := hide C5'
    have T5 := hide (T4.out.only o5 htc)
    have R5 := hide (R4.out.only o5 (by omega))
    have HB5 : Hid (Below w.heap.size w w5) := HB4.out.trans (o5.below (by omega) HB4.out.size)
    have S5 : Hid (Sl w5 (w.heap.size + 1 + 1) w5.heap.size 2 (.slice A2 n2 c2) T.n (iiC T.m T.b)) := (S4.out.keep fun q h1 h2 => o5.block q h2 (by omega)).mono (Nat.le_refl _) o5.size
    clear T4 R4 HB4 S4
    clear C4 C5' o5
    cases b5 with
    | false =>
      go_wp2_with fail
      have Td := T5.out.below (w' := w5.drew) (Below.drew (Below.refl _ _))
      refine wp_region_mix [(0, true), (1, true), (2, false), (3, false), (4, true)] (fun W => BxT W tb T.s T.v T.y (.slice A2 n2 c2)) (by kernel_rfl) (by kernel_rfl) (by kernel_rfl) (by kernel_rfl) Td ?_
      refine mix_look _ (.agg #[.string T.s, .int .i64 T.v, .int .i64 T.y, .slice A2 n2 c2]) rfl rfl (fun w' hw' => (by obtain ⟨a0, a1, a2, a3, af, al⟩ := hw'; go_simp)) ?_
      go_simp
      refine mix_look _ _ rfl rfl (fun w' _ => BigFrame.run_move _ rfl w') ?_
      go_simp
      refine mix_call _ 45 #[.pointer (some ⟨w.heap.size + 1, 0, none⟩)] rfl rfl (by go_simp) ?_
      refine (boardMinute_any _ _ _ (Cu.drew C5.out) (by omega)).mono ?_
      rintro e w9 ⟨v9, rfl, C9, o9'⟩
      have o9 : Only (w.heap.size + 1) (w.heap.size + 1 + 1) w5 w9 := Only.trans (w' := w5.drew) ⟨rfl, rfl, rfl, Nat.le_refl _, fun _ _ _ => rfl⟩ o9'
      have T9 := hide (T5.out.only o9 htc)
      have R9 := hide (R5.out.only o9 (by omega))
      have HB9 : Hid (Below w.heap.size w w9) := HB5.out.trans (o9.below (by omega) HB5.out.size)
      have S9 : Hid (Sl w9 (w.heap.size + 1 + 1) w9.heap.size 2 (.slice A2 n2 c2) T.n (iiC T.m T.b)) := (S5.out.keep fun q h1 h2 => o9.block q h2 (by omega)).mono (Nat.le_refl _) o9.size
      clear T5 R5 HB5 S5
      refine ⟨_, rfl, T9.out, ?_⟩
      go_simp
      obtain ⟨r0, r1, r2, r3, rf, rl⟩ := R9.out
      have hov := four_set w9 w.heap.size (.string T.s) (.int .i64 T.v) (.int .i64 T.y) (.slice A2 n2 c2)
      obtain ⟨WF, hWF⟩ : ∃ W, W = ((((w9).setCell ⟨w.heap.size, 0, none⟩ (.string T.s)).setCell ⟨w.heap.size, 1, none⟩ (.int .i64 T.v)).setCell ⟨w.heap.size, 2, none⟩ (.int .i64 T.y)).setCell ⟨w.heap.size, 3, none⟩ (.slice A2 n2 c2) := ⟨_, rfl⟩
      rw [← hWF] at hov
      have HSF : Hid (Sl WF w.heap.size WF.heap.size 2 (.slice A2 n2 c2) T.n (iiC T.m T.b)) := (sl_over S9.out hov.1 (by omega) (by rw [hov.2]; exact Nat.le_refl _)).mono (by omega) (Nat.le_refl _)
      have HBF : Hid (Below w.heap.size w WF) := by show Below _ _ _; rw [hWF]; exact four_below HB9.out (Nat.le_refl _) _ _ _ _
      have RF : Hid (BxT WF w.heap.size T.s T.v T.y (.slice A2 n2 c2)) := by
        show BxT _ _ _ _ _ _
        rw [hWF]
        exact ⟨by simp [go_sem, r0, r1, r2, r3], by simp [go_sem, r0, r1, r2, r3], by simp [go_sem, r0, r1, r2, r3], by simp [go_sem, r0, r1, r2, r3], fun o => by simp [go_sem, rf], by simp [World.setCell]; exact rl⟩
      have TF : Hid (BxT WF tb T.s T.v T.y (.slice A2 n2 c2)) := T9.out.keep (hov.1 tb (by omega)) (by rw [hov.2]; exact Nat.le_refl _)
      have HWF := hide hWF
      clear hWF hov
      refine mix_store _ WF rfl rfl (by rw [HWF.out]; go_simp) TF.out ?_
      go_simp
      refine mix_look _ _ rfl rfl (fun w' _ => BigFrame.run_assign _ rfl w') ?_
      go_simp
      refine wpMix_nil ?_
      clear r0 r1 r2 r3 rf rl
      obtain ⟨r0, r1, r2, r3, rf, rl⟩ := RF.out
      go_wp2_with fail
      exact bodyPost_ret (v := .tuple #[.agg #[.string T.s, .int .i64 T.v, .int .i64 T.y, .slice A2 n2 c2], .int .i64 (v9)]) (by simp [results, Try.results16, go_sem, *]) rfl ⟨T, .slice A2 n2 c2, _, rfl, HSF.out, HF.out, HBF.out⟩
    | true =>
      obtain ⟨t0, t1, t2, t3, tf, tl⟩ := T5.out
      go_wp2_with fail
      refine (enTurn_any T _ _ _ _ S5.out (Nat.le_refl _) HTB.out).mono ?_
      rintro e w6 ⟨rfl, hb6⟩
      have T6 := hide (T5.out.below hb6)
      have R6 := hide (R5.out.below hb6)
      have C6 := hide (C5.out.below hb6 (Nat.le_refl _))
      have HB6 : Hid (Below w.heap.size w w6) := HB5.out.trans (hb6.mono HB5.out.size)
      have S6 : Hid (Sl w6 (w.heap.size + 1 + 1) w6.heap.size 2 (.slice A2 n2 c2) T.n (iiC T.m T.b)) := (S5.out.below hb6 (Nat.le_refl _)).mono (Nat.le_refl _) hb6.size
      clear T5 R5 C5 HB5 S5
      clear t0 t1 t2 t3 tf tl hb6
      obtain ⟨tn, htn⟩ : ∃ tn, tn = tmTN T := ⟨_, rfl⟩
      rw [← htn]
      clear htn
      cases hok : tmTOk T with
      | false =>
        go_wp2_with fail
        have Td := T6.out.below (w' := w6.drew) (Below.drew (Below.refl _ _))
        refine wp_region_mix [(0, true), (1, true), (2, false), (3, false), (4, true)] (fun W => BxT W tb T.s T.v T.y (.slice A2 n2 c2)) (by kernel_rfl) (by kernel_rfl) (by kernel_rfl) (by kernel_rfl) Td ?_
        refine mix_look _ (.agg #[.string T.s, .int .i64 T.v, .int .i64 T.y, .slice A2 n2 c2]) rfl rfl (fun w' hw' => (by obtain ⟨a0, a1, a2, a3, af, al⟩ := hw'; go_simp)) ?_
        go_simp
        refine mix_look _ _ rfl rfl (fun w' _ => BigFrame.run_move _ rfl w') ?_
        go_simp
        refine mix_call _ 45 #[.pointer (some ⟨w.heap.size + 1, 0, none⟩)] rfl rfl (by go_simp) ?_
        refine (boardMinute_any _ _ _ (Cu.drew C6.out) (by omega)).mono ?_
        rintro e w9 ⟨v9, rfl, C9, o9'⟩
        have o9 : Only (w.heap.size + 1) (w.heap.size + 1 + 1) w6 w9 := Only.trans (w' := w6.drew) ⟨rfl, rfl, rfl, Nat.le_refl _, fun _ _ _ => rfl⟩ o9'
        have T9 := hide (T6.out.only o9 htc)
        have R9 := hide (R6.out.only o9 (by omega))
        have HB9 : Hid (Below w.heap.size w w9) := HB6.out.trans (o9.below (by omega) HB6.out.size)
        have S9 : Hid (Sl w9 (w.heap.size + 1 + 1) w9.heap.size 2 (.slice A2 n2 c2) T.n (iiC T.m T.b)) := (S6.out.keep fun q h1 h2 => o9.block q h2 (by omega)).mono (Nat.le_refl _) o9.size
        clear T6 R6 HB6 S6
        refine ⟨_, rfl, T9.out, ?_⟩
        go_simp
        obtain ⟨r0, r1, r2, r3, rf, rl⟩ := R9.out
        have hov := four_set w9 w.heap.size (.string T.s) (.int .i64 T.v) (.int .i64 T.y) (.slice A2 n2 c2)
        obtain ⟨WF, hWF⟩ : ∃ W, W = ((((w9).setCell ⟨w.heap.size, 0, none⟩ (.string T.s)).setCell ⟨w.heap.size, 1, none⟩ (.int .i64 T.v)).setCell ⟨w.heap.size, 2, none⟩ (.int .i64 T.y)).setCell ⟨w.heap.size, 3, none⟩ (.slice A2 n2 c2) := ⟨_, rfl⟩
        rw [← hWF] at hov
        have HSF : Hid (Sl WF w.heap.size WF.heap.size 2 (.slice A2 n2 c2) T.n (iiC T.m T.b)) := (sl_over S9.out hov.1 (by omega) (by rw [hov.2]; exact Nat.le_refl _)).mono (by omega) (Nat.le_refl _)
        have HBF : Hid (Below w.heap.size w WF) := by show Below _ _ _; rw [hWF]; exact four_below HB9.out (Nat.le_refl _) _ _ _ _
        have RF : Hid (BxT WF w.heap.size T.s T.v T.y (.slice A2 n2 c2)) := by
          show BxT _ _ _ _ _ _
          rw [hWF]
          exact ⟨by simp [go_sem, r0, r1, r2, r3], by simp [go_sem, r0, r1, r2, r3], by simp [go_sem, r0, r1, r2, r3], by simp [go_sem, r0, r1, r2, r3], fun o => by simp [go_sem, rf], by simp [World.setCell]; exact rl⟩
        have TF : Hid (BxT WF tb T.s T.v T.y (.slice A2 n2 c2)) := T9.out.keep (hov.1 tb (by omega)) (by rw [hov.2]; exact Nat.le_refl _)
        have HWF := hide hWF
        clear hWF hov
        refine mix_store _ WF rfl rfl (by rw [HWF.out]; go_simp) TF.out ?_
        go_simp
        refine mix_look _ _ rfl rfl (fun w' _ => BigFrame.run_assign _ rfl w') ?_
        go_simp
        refine wpMix_nil ?_
        clear r0 r1 r2 r3 rf rl
        obtain ⟨r0, r1, r2, r3, rf, rl⟩ := RF.out
        go_wp2_with fail
        exact bodyPost_ret (v := .tuple #[.agg #[.string T.s, .int .i64 T.v, .int .i64 T.y, .slice A2 n2 c2], .int .i64 (v9)]) (by simp [results, Try.results16, go_sem, *]) rfl ⟨T, .slice A2 n2 c2, _, rfl, HSF.out, HF.out, HBF.out⟩
      | true =>
        clear hok
        go_wp2_with fail
        have Td := T6.out.below (w' := w6.drew) (Below.drew (Below.refl _ _))
        have Ta := Td.alloc (.cells #[.int .i64 0, .int .i64 1, .int .i64 (-5), .int .i64 (-6)] 3)
        refine wp_region_mix [(0, true), (1, true), (2, true), (3, false), (4, false), (5, true), (6, false), (7, true)] (fun W => BxT W tb T.s T.v T.y (.slice A2 n2 c2)) (by kernel_rfl) (by kernel_rfl) (by kernel_rfl) (by kernel_rfl) Td ?_
        refine mix_look _ (.agg #[.string T.s, .int .i64 T.v, .int .i64 T.y, .slice A2 n2 c2]) rfl rfl (fun w' hw' => (by obtain ⟨a0, a1, a2, a3, af, al⟩ := hw'; go_simp)) ?_
        go_simp
        refine mix_look _ _ rfl rfl (fun w' _ => BigFrame.run_move _ rfl w') ?_
        go_simp
        refine mix_look _ _ rfl rfl (fun w' _ => BigFrame.run_move _ rfl w') ?_
        go_simp
        refine mix_value _ (.slice (some ⟨w6.heap.size, 0, none⟩) 4 4) (w6.drew.alloc (.cells #[.int .i64 0, .int .i64 1, .int .i64 (-5), .int .i64 (-6)] 3)) rfl rfl (by go_simp) Ta ?_
        go_simp
        refine mix_call _ 44 #[.pointer (some ⟨w.heap.size + 1, 0, none⟩), .slice (some ⟨w6.heap.size, 0, none⟩) 4 4] rfl rfl (by go_simp) ?_
        refine (among_new _ _ _ _ w6.drew _ _ (Cu.drew C6.out) rfl (by omega) (by rfl) (by decide) (by decide) (by simp [isI])).mono ?_
        rintro e w9 ⟨v9, rfl, _, C9, o9'⟩
        have o9 : Only (w.heap.size + 1) (w.heap.size + 1 + 1) w6 w9 := Only.trans (w' := w6.drew) ⟨rfl, rfl, rfl, Nat.le_refl _, fun _ _ _ => rfl⟩ o9'
        have T9 := hide (T6.out.only o9 htc)
        have R9 := hide (R6.out.only o9 (by omega))
        have HB9 : Hid (Below w.heap.size w w9) := HB6.out.trans (o9.below (by omega) HB6.out.size)
        have S9 : Hid (Sl w9 (w.heap.size + 1 + 1) w9.heap.size 2 (.slice A2 n2 c2) T.n (iiC T.m T.b)) := (S6.out.keep fun q h1 h2 => o9.block q h2 (by omega)).mono (Nat.le_refl _) o9.size
        clear T6 R6 HB6 S6
        refine ⟨_, rfl, T9.out, ?_⟩
        go_simp
        obtain ⟨sm, hsm⟩ : ∃ sm, sm = IntKind.i64.wrap (tn + v9) := ⟨_, rfl⟩
        refine mix_look _ (.int .i64 sm) rfl rfl (fun w' hw' => (by first | (go_simp; done) | (go_simp; rw [hsm]))) ?_
        clear hsm
        go_simp
        obtain ⟨r0, r1, r2, r3, rf, rl⟩ := R9.out
        have hov := four_set w9 w.heap.size (.string T.s) (.int .i64 T.v) (.int .i64 T.y) (.slice A2 n2 c2)
        obtain ⟨WF, hWF⟩ : ∃ W, W = ((((w9).setCell ⟨w.heap.size, 0, none⟩ (.string T.s)).setCell ⟨w.heap.size, 1, none⟩ (.int .i64 T.v)).setCell ⟨w.heap.size, 2, none⟩ (.int .i64 T.y)).setCell ⟨w.heap.size, 3, none⟩ (.slice A2 n2 c2) := ⟨_, rfl⟩
        rw [← hWF] at hov
        have HSF : Hid (Sl WF w.heap.size WF.heap.size 2 (.slice A2 n2 c2) T.n (iiC T.m T.b)) := (sl_over S9.out hov.1 (by omega) (by rw [hov.2]; exact Nat.le_refl _)).mono (by omega) (Nat.le_refl _)
        have HBF : Hid (Below w.heap.size w WF) := by show Below _ _ _; rw [hWF]; exact four_below HB9.out (Nat.le_refl _) _ _ _ _
        have RF : Hid (BxT WF w.heap.size T.s T.v T.y (.slice A2 n2 c2)) := by
          show BxT _ _ _ _ _ _
          rw [hWF]
          exact ⟨by simp [go_sem, r0, r1, r2, r3], by simp [go_sem, r0, r1, r2, r3], by simp [go_sem, r0, r1, r2, r3], by simp [go_sem, r0, r1, r2, r3], fun o => by simp [go_sem, rf], by simp [World.setCell]; exact rl⟩
        have TF : Hid (BxT WF tb T.s T.v T.y (.slice A2 n2 c2)) := T9.out.keep (hov.1 tb (by omega)) (by rw [hov.2]; exact Nat.le_refl _)
        have HWF := hide hWF
        clear hWF hov
        refine mix_store _ WF rfl rfl (by rw [HWF.out]; go_simp) TF.out ?_
        go_simp
        refine mix_look _ _ rfl rfl (fun w' _ => BigFrame.run_assign _ rfl w') ?_
        go_simp
        refine wpMix_nil ?_
        clear r0 r1 r2 r3 rf rl
        obtain ⟨r0, r1, r2, r3, rf, rl⟩ := RF.out
        go_wp2_with fail
        exact bodyPost_ret (v := .tuple #[.agg #[.string T.s, .int .i64 T.v, .int .i64 T.y, .slice A2 n2 c2], .int .i64 (sm)]) (by simp [results, Try.results16, go_sem, *]) rfl ⟨T, .slice A2 n2 c2, _, rfl, HSF.out, HF.out, HBF.out⟩
set_option maxRecDepth 100000 in
set_option maxHeartbeats 6400000 in
theorem DrawPressureAt_any (v : Value) (w : World) (h : Code w v) : Calls Try.prog 18 #[v] w (DtkPost w) := by
  obtain ⟨A, n, cap, rfl⟩ := h.form
  have hC0 : Cu ((w.alloc (.cells #[.string ⟨#[]⟩, .int .i64 0, .int .i64 0, .slice none 0 0] 26)).alloc (.cells #[.slice A n cap, .int .i64 0, .int .u64 0] 58)) (w.heap.size + 1) 0 := by
    have := Cu.start (h.below ((Below.refl _ _).alloc (Nat.le_refl _) (.cells #[.string ⟨#[]⟩, .int .i64 0, .int .i64 0, .slice none 0 0] 26)) (Nat.le_refl _)) 58
    simpa using this
  have R0 : BxT ((w.alloc (.cells #[.string ⟨#[]⟩, .int .i64 0, .int .i64 0, .slice none 0 0] 26)).alloc (.cells #[.slice A n cap, .int .i64 0, .int .u64 0] 58)) w.heap.size ⟨#[]⟩ 0 0 (.slice none 0 0) := (BxT.new w _ _ _ _ _).alloc _
  have O0 : Only (w.heap.size + 1) (w.heap.size + 1 + 1) w ((w.alloc (.cells #[.string ⟨#[]⟩, .int .i64 0, .int .i64 0, .slice none 0 0] 26)).alloc (.cells #[.slice A n cap, .int .i64 0, .int .u64 0] 58)) := ((Only.refl _ _ w).alloc _).alloc _
  go_enter Try.func18, Try.ntmps18
  go_wp2_with fail
  refine (team_any _ _ _ _ hC0 (by omega)).mono ?_
  rintro e w2 ⟨x, y, u, n2, rfl, I2, hn2, hC2, hO2⟩
  have R2 := R0.only hO2 (by omega)
  have O2 := O0.trans hO2
  have hl2 := R2.lt
  obtain ⟨f, k, hsl⟩ := I2.sl2
  obtain ⟨A2, c2, rfl⟩ := I2.form
  obtain ⟨s, hs⟩ : ∃ s : ByteArray, s = ⟨#[97]⟩ := ⟨_, rfl⟩
  have hss : s.size = 1 := by rw [hs]; rfl
  rw [← hs]
  have hb2 : Below w.heap.size w w2 := O2.below (by omega) (Nat.le_refl _)
  have hC2' := hC2
  obtain ⟨T, hT⟩ : ∃ T : Tm, T = ⟨s, x, y, n2, f, k⟩ := ⟨_, rfl⟩
  have HT : Hid (T.s = s ∧ T.v = x ∧ T.y = y ∧ T.n = n2 ∧ T.m = f ∧ T.b = k) := by rw [hT]; exact ⟨rfl, rfl, rfl, rfl, rfl, rfl⟩
  have HF : Hid T.fits := by rw [hT]; exact ⟨by unfold maxLen; show s.size ≤ _; omega, by show n2 ≤ 1048576; omega⟩
  have hsz0 : ((w.alloc (.cells #[.string ⟨#[]⟩, .int .i64 0, .int .i64 0, .slice none 0 0] 26)).alloc (.cells #[.slice A n cap, .int .i64 0, .int .u64 0] 58)).heap.size = w.heap.size + 1 + 1 := by simp
  rw [hsz0] at hsl
  have HSL : Hid (Sl w2 (w.heap.size + 1 + 1) w2.heap.size 2 (.slice A2 n2 c2) T.n (iiC T.m T.b)) := by
    show Sl _ _ _ _ _ _ _
    rw [HT.out.2.2.2.1, HT.out.2.2.2.2.1, HT.out.2.2.2.2.2]
    exact hsl
  clear R0 O0 hO2 hC0 I2 hsl hT hs hC2 hsz0
  go_wp2_with fail
  obtain ⟨W3, hW3⟩ : ∃ W, W = w2.alloc (.cells #[.string s, .int .i64 x, .int .i64 y, .slice A2 n2 c2] 26) := ⟨_, rfl⟩
  obtain ⟨tb, htb⟩ : ∃ tb, tb = w2.heap.size := ⟨_, rfl⟩
  have bw3 : Below w2.heap.size w2 W3 := by rw [hW3]; exact (Below.refl _ _).alloc (Nat.le_refl _) _
  have T3 : Hid (BxT W3 tb s x y (.slice A2 n2 c2)) := by show BxT _ _ _ _ _ _; rw [hW3, htb]; exact BxT.new _ _ _ _ _ _
  have R3 := hide (R2.below bw3)
  have C3 : Hid (Cu W3 (w.heap.size + 1) 300) := (hC2'.below bw3 (Nat.le_refl _)).more (by omega)
  have HB3 : Hid (Below w.heap.size w W3) := hb2.trans (bw3.mono hb2.size)
  have S3 : Hid (Sl W3 (w.heap.size + 1 + 1) W3.heap.size 2 (.slice A2 n2 c2) T.n (iiC T.m T.b)) := (HSL.out.below bw3 (Nat.le_refl _)).mono (Nat.le_refl _) bw3.size
  have htl : w.heap.size < tb := by omega
  have htc : tb ≠ w.heap.size + 1 := by have := HSL.out; have := hC2'.lt; omega
  rw [← hW3, ← htb]
  clear hW3 htb bw3 R2 O2 hb2 hC2' HSL hl2
  obtain ⟨e1, e2, e3, e4, e5, e6⟩ := HT.out
  rw [← e1, ← e2, ← e3] at T3
  rw [← e1, ← e2, ← e3]
  clear e1 e2 e3 e4 e5 e6
  obtain ⟨t0, t1, t2, t3, tf, tl⟩ := T3.out
  go_wp2_with fail
  refine (enOne_any T _ _ _ _ S3.out (Nat.le_refl _) HF.out).mono ?_
  rintro e w4 ⟨rfl, hb4⟩
  have T4 := hide (T3.out.below hb4)
  have R4 := hide (R3.out.below hb4)
  have C4 := hide (C3.out.below hb4 (Nat.le_refl _))
  have HB4 : Hid (Below w.heap.size w w4) := HB3.out.trans (hb4.mono HB3.out.size)
  have S4 : Hid (Sl w4 (w.heap.size + 1 + 1) w4.heap.size 2 (.slice A2 n2 c2) T.n (iiC T.m T.b)) := (S3.out.below hb4 (Nat.le_refl _)).mono (Nat.le_refl _) hb4.size
  clear T3 R3 C3 HB3 S3
  clear t0 t1 t2 t3 tf tl hb4
  cases hB : tmB T with
  | false =>
    go_wp2_with fail
    have Td := T4.out.below (w' := w4.drew) (Below.drew (Below.refl _ _))
    refine wp_region_mix [(0, true), (1, true), (2, false), (3, false), (4, true)] (fun W => BxT W tb T.s T.v T.y (.slice A2 n2 c2)) (by kernel_rfl) (by kernel_rfl) (by kernel_rfl) (by kernel_rfl) Td ?_
    refine mix_look _ (.agg #[.string T.s, .int .i64 T.v, .int .i64 T.y, .slice A2 n2 c2]) rfl rfl (fun w' hw' => (by obtain ⟨a0, a1, a2, a3, af, al⟩ := hw'; go_simp)) ?_
    go_simp
    refine mix_look _ _ rfl rfl (fun w' _ => BigFrame.run_move _ rfl w') ?_
    go_simp
    refine mix_call _ 45 #[.pointer (some ⟨w.heap.size + 1, 0, none⟩)] rfl rfl (by go_simp) ?_
    refine (boardMinute_any _ _ _ (Cu.drew C4.out) (by omega)).mono ?_
    rintro e w9 ⟨v9, rfl, C9, o9'⟩
    have o9 : Only (w.heap.size + 1) (w.heap.size + 1 + 1) w4 w9 := Only.trans (w' := w4.drew) ⟨rfl, rfl, rfl, Nat.le_refl _, fun _ _ _ => rfl⟩ o9'
    have T9 := hide (T4.out.only o9 htc)
    have R9 := hide (R4.out.only o9 (by omega))
    have HB9 : Hid (Below w.heap.size w w9) := HB4.out.trans (o9.below (by omega) HB4.out.size)
    have S9 : Hid (Sl w9 (w.heap.size + 1 + 1) w9.heap.size 2 (.slice A2 n2 c2) T.n (iiC T.m T.b)) := (S4.out.keep fun q h1 h2 => o9.block q h2 (by omega)).mono (Nat.le_refl _) o9.size
    clear T4 R4 HB4 S4
    refine ⟨_, rfl, T9.out, ?_⟩
    go_simp
    obtain ⟨r0, r1, r2, r3, rf, rl⟩ := R9.out
    have hov := four_set w9 w.heap.size (.string T.s) (.int .i64 T.v) (.int .i64 T.y) (.slice A2 n2 c2)
    obtain ⟨WF, hWF⟩ : ∃ W, W = ((((w9).setCell ⟨w.heap.size, 0, none⟩ (.string T.s)).setCell ⟨w.heap.size, 1, none⟩ (.int .i64 T.v)).setCell ⟨w.heap.size, 2, none⟩ (.int .i64 T.y)).setCell ⟨w.heap.size, 3, none⟩ (.slice A2 n2 c2) := ⟨_, rfl⟩
    rw [← hWF] at hov
    have HSF : Hid (Sl WF w.heap.size WF.heap.size 2 (.slice A2 n2 c2) T.n (iiC T.m T.b)) := (sl_over S9.out hov.1 (by omega) (by rw [hov.2]; exact Nat.le_refl _)).mono (by omega) (Nat.le_refl _)
    have HBF : Hid (Below w.heap.size w WF) := by show Below _ _ _; rw [hWF]; exact four_below HB9.out (Nat.le_refl _) _ _ _ _
    have RF : Hid (BxT WF w.heap.size T.s T.v T.y (.slice A2 n2 c2)) := by
      show BxT _ _ _ _ _ _
      rw [hWF]
      exact ⟨by simp [go_sem, r0, r1, r2, r3], by simp [go_sem, r0, r1, r2, r3], by simp [go_sem, r0, r1, r2, r3], by simp [go_sem, r0, r1, r2, r3], fun o => by simp [go_sem, rf], by simp [World.setCell]; exact rl⟩
    have TF : Hid (BxT WF tb T.s T.v T.y (.slice A2 n2 c2)) := T9.out.keep (hov.1 tb (by omega)) (by rw [hov.2]; exact Nat.le_refl _)
    have HWF := hide hWF
    clear hWF hov
    refine mix_store _ WF rfl rfl (by rw [HWF.out]; go_simp) TF.out ?_
    go_simp
    refine mix_look _ _ rfl rfl (fun w' _ => BigFrame.run_assign _ rfl w') ?_
    go_simp
    refine wpMix_nil ?_
    clear r0 r1 r2 r3 rf rl
    obtain ⟨r0, r1, r2, r3, rf, rl⟩ := RF.out
    go_wp2_with fail
    exact bodyPost_ret (v := .tuple #[.agg #[.string T.s, .int .i64 T.v, .int .i64 T.y, .slice A2 n2 c2], .int .i64 (v9)]) (by simp [results, Try.results18, go_sem, *]) rfl ⟨T, .slice A2 n2 c2, _, rfl, HSF.out, HF.out, HBF.out⟩
  | true =>
    have HTB := hide hB
    clear hB
    go_wp2_with fail
    refine (one_any _ _ _ _ C4.out (by omega)).mono ?_
    rintro e w5 ⟨b5, rfl, C5', o5⟩
    have C5 := hide C5'
    have T5 := hide (T4.out.only o5 htc)
    have R5 := hide (R4.out.only o5 (by omega))
    have HB5 : Hid (Below w.heap.size w w5) := HB4.out.trans (o5.below (by omega) HB4.out.size)
    have S5 : Hid (Sl w5 (w.heap.size + 1 + 1) w5.heap.size 2 (.slice A2 n2 c2) T.n (iiC T.m T.b)) := (S4.out.keep fun q h1 h2 => o5.block q h2 (by omega)).mono (Nat.le_refl _) o5.size
    clear T4 R4 HB4 S4
    clear C4 C5' o5
    cases b5 with
    | false =>
      go_wp2_with fail
      have Td := T5.out.below (w' := w5.drew) (Below.drew (Below.refl _ _))
      refine wp_region_mix [(0, true), (1, true), (2, false), (3, false), (4, true)] (fun W => BxT W tb T.s T.v T.y (.slice A2 n2 c2)) (by kernel_rfl) (by kernel_rfl) (by kernel_rfl) (by kernel_rfl) Td ?_
      refine mix_look _ (.agg #[.string T.s, .int .i64 T.v, .int .i64 T.y, .slice A2 n2 c2]) rfl rfl (fun w' hw' => (by obtain ⟨a0, a1, a2, a3, af, al⟩ := hw'; go_simp)) ?_
      go_simp
      refine mix_look _ _ rfl rfl (fun w' _ => BigFrame.run_move _ rfl w') ?_
      go_simp
      refine mix_call _ 45 #[.pointer (some ⟨w.heap.size + 1, 0, none⟩)] rfl rfl (by go_simp) ?_
      refine (boardMinute_any _ _ _ (Cu.drew C5.out) (by omega)).mono ?_
      rintro e w9 ⟨v9, rfl, C9, o9'⟩
      have o9 : Only (w.heap.size + 1) (w.heap.size + 1 + 1) w5 w9 := Only.trans (w' := w5.drew) ⟨rfl, rfl, rfl, Nat.le_refl _, fun _ _ _ => rfl⟩ o9'
      have T9 := hide (T5.out.only o9 htc)
      have R9 := hide (R5.out.only o9 (by omega))
      have HB9 : Hid (Below w.heap.size w w9) := HB5.out.trans (o9.below (by omega) HB5.out.size)
      have S9 : Hid (Sl w9 (w.heap.size + 1 + 1) w9.heap.size 2 (.slice A2 n2 c2) T.n (iiC T.m T.b)) := (S5.out.keep fun q h1 h2 => o9.block q h2 (by omega)).mono (Nat.le_refl _) o9.size
      clear T5 R5 HB5 S5
      refine ⟨_, rfl, T9.out, ?_⟩
      go_simp
      obtain ⟨r0, r1, r2, r3, rf, rl⟩ := R9.out
      have hov := four_set w9 w.heap.size (.string T.s) (.int .i64 T.v) (.int .i64 T.y) (.slice A2 n2 c2)
      obtain ⟨WF, hWF⟩ : ∃ W, W = ((((w9).setCell ⟨w.heap.size, 0, none⟩ (.string T.s)).setCell ⟨w.heap.size, 1, none⟩ (.int .i64 T.v)).setCell ⟨w.heap.size, 2, none⟩ (.int .i64 T.y)).setCell ⟨w.heap.size, 3, none⟩ (.slice A2 n2 c2) := ⟨_, rfl⟩
      rw [← hWF] at hov
      have HSF : Hid (Sl WF w.heap.size WF.heap.size 2 (.slice A2 n2 c2) T.n (iiC T.m T.b)) := (sl_over S9.out hov.1 (by omega) (by rw [hov.2]; exact Nat.le_refl _)).mono (by omega) (Nat.le_refl _)
      have HBF : Hid (Below w.heap.size w WF) := by show Below _ _ _; rw [hWF]; exact four_below HB9.out (Nat.le_refl _) _ _ _ _
      have RF : Hid (BxT WF w.heap.size T.s T.v T.y (.slice A2 n2 c2)) := by
        show BxT _ _ _ _ _ _
        rw [hWF]
        exact ⟨by simp [go_sem, r0, r1, r2, r3], by simp [go_sem, r0, r1, r2, r3], by simp [go_sem, r0, r1, r2, r3], by simp [go_sem, r0, r1, r2, r3], fun o => by simp [go_sem, rf], by simp [World.setCell]; exact rl⟩
      have TF : Hid (BxT WF tb T.s T.v T.y (.slice A2 n2 c2)) := T9.out.keep (hov.1 tb (by omega)) (by rw [hov.2]; exact Nat.le_refl _)
      have HWF := hide hWF
      clear hWF hov
      refine mix_store _ WF rfl rfl (by rw [HWF.out]; go_simp) TF.out ?_
      go_simp
      refine mix_look _ _ rfl rfl (fun w' _ => BigFrame.run_assign _ rfl w') ?_
      go_simp
      refine wpMix_nil ?_
      clear r0 r1 r2 r3 rf rl
      obtain ⟨r0, r1, r2, r3, rf, rl⟩ := RF.out
      go_wp2_with fail
      exact bodyPost_ret (v := .tuple #[.agg #[.string T.s, .int .i64 T.v, .int .i64 T.y, .slice A2 n2 c2], .int .i64 (v9)]) (by simp [results, Try.results18, go_sem, *]) rfl ⟨T, .slice A2 n2 c2, _, rfl, HSF.out, HF.out, HBF.out⟩
    | true =>
      obtain ⟨t0, t1, t2, t3, tf, tl⟩ := T5.out
      go_wp2_with fail
      refine (enLast_any T _ _ _ _ S5.out (Nat.le_refl _) HTB.out).mono ?_
      rintro e w6 ⟨rfl, hb6⟩
      have T6 := hide (T5.out.below hb6)
      have R6 := hide (R5.out.below hb6)
      have C6 := hide (C5.out.below hb6 (Nat.le_refl _))
      have HB6 : Hid (Below w.heap.size w w6) := HB5.out.trans (hb6.mono HB5.out.size)
      have S6 : Hid (Sl w6 (w.heap.size + 1 + 1) w6.heap.size 2 (.slice A2 n2 c2) T.n (iiC T.m T.b)) := (S5.out.below hb6 (Nat.le_refl _)).mono (Nat.le_refl _) hb6.size
      clear T5 R5 C5 HB5 S5
      clear t0 t1 t2 t3 tf tl hb6
      obtain ⟨lm, hlm⟩ : ∃ lm, lm = T.lm := ⟨_, rfl⟩
      rw [← hlm]
      clear hlm
      go_wp2_with fail
      obtain ⟨w7, hw7⟩ : ∃ W, W = w6.alloc (.cells #[.int .i64 T.v, .int .i64 T.lb] 35) := ⟨_, rfl⟩
      have hb7 : Below w6.heap.size w6 w7 := by rw [hw7]; exact (Below.refl _ _).alloc (Nat.le_refl _) _
      rw [← hw7]
      clear hw7
      have T7 := hide (T6.out.below hb7)
      have R7 := hide (R6.out.below hb7)
      have C7 := hide (C6.out.below hb7 (Nat.le_refl _))
      have HB7 : Hid (Below w.heap.size w w7) := HB6.out.trans (hb7.mono HB6.out.size)
      have S7 : Hid (Sl w7 (w.heap.size + 1 + 1) w7.heap.size 2 (.slice A2 n2 c2) T.n (iiC T.m T.b)) := (S6.out.below hb7 (Nat.le_refl _)).mono (Nat.le_refl _) hb7.size
      clear T6 R6 C6 HB6 S6
      clear hb7
      have Td := T7.out.below (w' := w7.drew) (Below.drew (Below.refl _ _))
      refine wp_region_mix [(0, true), (1, true), (2, true), (3, false), (4, true), (5, false), (6, true)] (fun W => BxT W tb T.s T.v T.y (.slice A2 n2 c2)) (by kernel_rfl) (by kernel_rfl) (by kernel_rfl) (by kernel_rfl) Td ?_
      refine mix_look _ (.agg #[.string T.s, .int .i64 T.v, .int .i64 T.y, .slice A2 n2 c2]) rfl rfl (fun w' hw' => (by obtain ⟨a0, a1, a2, a3, af, al⟩ := hw'; go_simp)) ?_
      go_simp
      refine mix_look _ _ rfl rfl (fun w' _ => BigFrame.run_move _ rfl w') ?_
      go_simp
      refine mix_look _ _ rfl rfl (fun w' _ => BigFrame.run_move _ rfl w') ?_
      go_simp
      refine mix_call _ 49 #[.pointer (some ⟨w.heap.size + 1, 0, none⟩), .int .i64 25] rfl rfl (by go_simp) ?_
      refine (pick_any _ _ _ _ (Cu.drew C7.out) (by omega)).mono ?_
      rintro e w9 ⟨v9, rfl, _, C9, o9'⟩
      have o9 : Only (w.heap.size + 1) (w.heap.size + 1 + 1) w7 w9 := Only.trans (w' := w7.drew) ⟨rfl, rfl, rfl, Nat.le_refl _, fun _ _ _ => rfl⟩ o9'
      have T9 := hide (T7.out.only o9 htc)
      have R9 := hide (R7.out.only o9 (by omega))
      have HB9 : Hid (Below w.heap.size w w9) := HB7.out.trans (o9.below (by omega) HB7.out.size)
      have S9 : Hid (Sl w9 (w.heap.size + 1 + 1) w9.heap.size 2 (.slice A2 n2 c2) T.n (iiC T.m T.b)) := (S7.out.keep fun q h1 h2 => o9.block q h2 (by omega)).mono (Nat.le_refl _) o9.size
      clear T7 R7 HB7 S7
      refine ⟨_, rfl, T9.out, ?_⟩
      go_simp
      obtain ⟨sm, hsm⟩ : ∃ sm, sm = IntKind.i64.wrap (lm + v9) := ⟨_, rfl⟩
      refine mix_look _ (.int .i64 sm) rfl rfl (fun w' hw' => (by first | (go_simp; done) | (go_simp; rw [hsm]))) ?_
      clear hsm
      go_simp
      obtain ⟨r0, r1, r2, r3, rf, rl⟩ := R9.out
      have hov := four_set w9 w.heap.size (.string T.s) (.int .i64 T.v) (.int .i64 T.y) (.slice A2 n2 c2)
      obtain ⟨WF, hWF⟩ : ∃ W, W = ((((w9).setCell ⟨w.heap.size, 0, none⟩ (.string T.s)).setCell ⟨w.heap.size, 1, none⟩ (.int .i64 T.v)).setCell ⟨w.heap.size, 2, none⟩ (.int .i64 T.y)).setCell ⟨w.heap.size, 3, none⟩ (.slice A2 n2 c2) := ⟨_, rfl⟩
      rw [← hWF] at hov
      have HSF : Hid (Sl WF w.heap.size WF.heap.size 2 (.slice A2 n2 c2) T.n (iiC T.m T.b)) := (sl_over S9.out hov.1 (by omega) (by rw [hov.2]; exact Nat.le_refl _)).mono (by omega) (Nat.le_refl _)
      have HBF : Hid (Below w.heap.size w WF) := by show Below _ _ _; rw [hWF]; exact four_below HB9.out (Nat.le_refl _) _ _ _ _
      have RF : Hid (BxT WF w.heap.size T.s T.v T.y (.slice A2 n2 c2)) := by
        show BxT _ _ _ _ _ _
        rw [hWF]
        exact ⟨by simp [go_sem, r0, r1, r2, r3], by simp [go_sem, r0, r1, r2, r3], by simp [go_sem, r0, r1, r2, r3], by simp [go_sem, r0, r1, r2, r3], fun o => by simp [go_sem, rf], by simp [World.setCell]; exact rl⟩
      have TF : Hid (BxT WF tb T.s T.v T.y (.slice A2 n2 c2)) := T9.out.keep (hov.1 tb (by omega)) (by rw [hov.2]; exact Nat.le_refl _)
      have HWF := hide hWF
      clear hWF hov
      refine mix_store _ WF rfl rfl (by rw [HWF.out]; go_simp) TF.out ?_
      go_simp
      refine mix_look _ _ rfl rfl (fun w' _ => BigFrame.run_assign _ rfl w') ?_
      go_simp
      refine wpMix_nil ?_
      clear r0 r1 r2 r3 rf rl
      obtain ⟨r0, r1, r2, r3, rf, rl⟩ := RF.out
      go_wp2_with fail
      exact bodyPost_ret (v := .tuple #[.agg #[.string T.s, .int .i64 T.v, .int .i64 T.y, .slice A2 n2 c2], .int .i64 (sm)]) (by simp [results, Try.results18, go_sem, *]) rfl ⟨T, .slice A2 n2 c2, _, rfl, HSF.out, HF.out, HBF.out⟩

end Go.Proofs.Ythkddbonmfoaaaa

/-
  Plain laws on teams that the drawn law on the entry board asks. No program in sight.-/
namespace Go.Proofs.Ythkddbonmfoaaaa
set_option linter.unusedVariables false
set_option linter.unusedSimpArgs false

theorem time_at (v b r a s : Int) : (0 ≤ timeF v b r a s → ∀ k : Nat, (k : Int) ≤ timeF v b r a s → okAt v b r a s k = true) ∧ (timeF v b r a s < 600 → okAt v b r a s (timeF v b r a s + 1).toNat = false) := by
  obtain ⟨h1, h2, h3⟩ := lead_spec (okAt v b r a s) 601
  have e : timeF v b r a s = (lead (okAt v b r a s) 601 : Nat) - 1 := rfl
  refine ⟨fun _ k hk => h2 k (by omega), fun h => ?_⟩
  have e2 : (timeF v b r a s + 1).toNat = lead (okAt v b r a s) 601 := by omega
  rw [e2]
  rcases h3 with h3 | h3
  · omega
  · exact h3
section
variable {T : Tm}
theorem turn_ok (h : turnOk T = true) : tmB T = true ∧ (0 ≤ tmT T ∧ tmT T ≤ 600) ∧ turnNN T = T.lm + tmT T ∧ tmTN T = T.lm + tmT T ∧ tmTOk T = true := by
  simp only [turnOk, Bool.and_eq_true] at h
  obtain ⟨h1, h2⟩ := h
  have h3 : 0 ≤ tmT T := of_decide_eq_true h2
  have h4 := tmT_bd T
  have e : tmTN T = T.lm + tmT T := by rw [tmTN, if_neg (by omega)]
  exact ⟨h1, by omega, by rw [turnNN, if_pos h1, e], e, h2⟩
/-- With the reserve one still gets out. -/
theorem turn_air (h : turnOk T = true) (h6 : tmT T + T.y ≤ 600) : barAfOk T.v T.lb (tmR T) (tmT T + T.y) = true ∧ 50 ≤ barAfN T.v T.lb (tmR T) (tmT T + T.y) := by
  obtain ⟨h1, h2, _, _, _⟩ := turn_ok h
  obtain ⟨_, f1, f2, _, f3, f4⟩ := tm_facts h1
  have hr := tmR_bd (T := T)
  have hB : barAfB T.v T.lb (tmR T) (tmT T + T.y) = true := by
    rw [barAfB, cylB_iff.2 ⟨f1, f4⟩, inB_iff.2 ⟨by omega, hr.2⟩, inB_iff.2 ⟨by omega, h6⟩]
    rfl
  have h5 := (time_at T.v T.lb (tmR T) T.y 50).1 h2.1 (tmT T).toNat (by show ((tmT T).toNat : Int) ≤ tmT T; omega)
  rw [okAt, show T.y + ((tmT T).toNat : Int) = tmT T + T.y by omega, Bool.and_eq_true, decide_eq_true_eq] at h5
  exact ⟨by rw [barAfOk, hB, h5.1]; rfl, by rw [barAfN, if_pos hB]; exact h5.2⟩
/-- One minute later not. -/
theorem turn_late (h : turnOk T = true) (h6 : tmT T < 600) (hk : barAfOk T.v T.lb (tmR T) (tmT T + T.y + 1) = true) : barAfN T.v T.lb (tmR T) (tmT T + T.y + 1) < 50 := by
  obtain ⟨h1, h2, _, _, _⟩ := turn_ok h
  have h5 := (time_at T.v T.lb (tmR T) T.y 50).2 h6
  have e : timeF T.v T.lb (tmR T) T.y 50 = tmT T := rfl
  rw [e] at h5
  rw [okAt, show T.y + ((tmT T + 1).toNat : Int) = tmT T + T.y + 1 by omega, Bool.and_eq_false_iff, decide_eq_false_iff_not] at h5
  simp only [barAfOk, Bool.and_eq_true] at hk
  rw [barAfN, if_pos hk.1]
  rcases h5 with h5 | h5
  · rw [h5] at hk
    cases hk.2
  · omega
end

end Go.Proofs.Ythkddbonmfoaaaa
