/-
  Texts of this proof, one behind the other (part 17).
-/
import Derived.Test.YtpckhpkbdanjoaaDoorQ16
/-
  Walks: a way with one hand at a wall: the program's.-/
namespace Go.Proofs.YtpckhpkbdanjoaaDoor
set_option linter.unusedVariables false
set_option linter.unusedSimpArgs false
open Go.RowKit

/-- What the call hands back. -/
def HwRow (F : Nat → ByteArray) (n : Nat) (b : Bool) (a : Int × Int) (w : World) (e : Ending) (w' : World) : Prop := ∃ v', e = .returned v' ∧ w'.ownsRow w.heap.size 38 2 v' (hwK F n b a + 1) (rowL (iiC (hwR F n b a) (hwC F n b a)) 2 (hwK F n b a + 1)) ∧ Below w.heap.size w w'
theorem hw_end {F : Nat → ByteArray} {n t ab tb : Nat} {b : Bool} {a p : Int × Int} {w w' : World} {v : Value} (ha : opP F n a = true) (hN : ∀ s, s < t → hwX F n b a s = false) (hx : hwX F n b a t = true) (h : HMem w w' ab tb b p t v (hwR F n b a) (hwC F n b a)) : HwRow F n b a w (.returned v) w' := by
  rw [HwRow, hwK_at ha hN hx]
  exact ⟨v, rfl, h.row.mono (by have := h.al; omega), h.bel⟩
theorem nesw_at {d : Nat} (hd : d < 4) (t : TypeId) (hu : Tryd.prog.underlying t = some .string) (w : World) : (Instr.index t (.string ⟨#[110, 101, 115, 119]⟩) (.int .i64 d)).run Tryd.prog w = .ok (.int .u8 (dL d)) w := by
  have h4 : d = 0 ∨ d = 1 ∨ d = 2 ∨ d = 3 := by omega
  rcases h4 with rfl | rfl | rfl | rfl <;> (simp [Instr.index, go_sem, run_underlying hu, dL]; rfl)
set_option maxRecDepth 100000 in
set_option maxHeartbeats 6400000 in
theorem handWay_any (F : Nat → ByteArray) (n : Nat) (r c : Int) (b : Bool) (lo hi : Nat) (v : Value) (w : World) (hv : Sl w lo hi 1 v n (sC F)) (hhi : hi ≤ w.heap.size) (hg : flB F n = true) (ho : opB F n r c = true) :
    Calls Tryd.prog 65 #[v, .agg #[.int .i64 r, .int .i64 c], .bool b] w (HwRow F n b (r, c) w) := by
  obtain ⟨A, cap, rfl, hcap, _⟩ := id hv.open_
  have HV := hide hv
  have HG := hide hg
  have HA : Hid (opP F n (r, c) = true) := ho
  obtain ⟨ii, hii, iz0, iz1, iz2⟩ := info_parts infoCell2
  have hmm := @run_makeMap Tryd.prog
  clear hv hg ho
  cases b with
  | true =>
    go_enter Tryd.func65, Tryd.ntmps65
    go_wp2_with fail
    obtain ⟨ab, hab⟩ : ∃ ab, ab = w.heap.size := ⟨_, rfl⟩
    obtain ⟨tb, htb⟩ : ∃ tb, tb = w.heap.size + 1 := ⟨_, rfl⟩
    obtain ⟨yb, hyb⟩ : ∃ yb, yb = w.heap.size + 2 := ⟨_, rfl⟩
    obtain ⟨mb, hmb⟩ : ∃ mb, mb = w.heap.size + 3 := ⟨_, rfl⟩
    obtain ⟨W0, hW0⟩ : ∃ W0, W0 = ((((w.alloc (.cells #[.int .i64 r, .int .i64 c] 38)).alloc (.cells #[.int .i64 3, .int .i64 0, .int .i64 1, .int .i64 2] 3)).alloc (.cells #[.int .i64 r, .int .i64 c] 38)).alloc (.map #[] 0)) := ⟨_, rfl⟩
    have b1 : Below w.heap.size w ((w.alloc (.cells #[.int .i64 r, .int .i64 c] 38)).alloc (.cells #[.int .i64 3, .int .i64 0, .int .i64 1, .int .i64 2] 3)) := (by repeat (first | (with_reducible exact Below.refl _ _) | (with_reducible refine below_ov ?_ ?_) | (with_reducible refine Below.setCell ?_ ?_ _) | (with_reducible refine Below.alloc ?_ ?_ _) | (with_reducible refine Below.drew ?_) | (with_reducible refine below_drewN ?_ _) | (refine Below.trans ?_ (Below.mono ‹Below _ _ _› (by first | omega | (simp; done) | (simp; omega)))) | exact Below.refl _ _ | omega | (focus (simp; done)) | (focus (simp; omega))))
    have b2 : Below (w.heap.size + 2) ((w.alloc (.cells #[.int .i64 r, .int .i64 c] 38)).alloc (.cells #[.int .i64 3, .int .i64 0, .int .i64 1, .int .i64 2] 3)) W0 := by rw [hW0]; exact ((Below.refl _ _).alloc (by simp) _).alloc (by simp) _
    have HM0 : Hid (HMem w W0 ab tb true (r, c) 0 (.slice (some ⟨yb, 0, none⟩) 1 1) (hwR F n true (r, c)) (hwC F n true (r, c))) := by
      refine ⟨?_, ?_, ?_, by omega, by omega, b1.trans (b2.mono (by omega))⟩
      · rw [hab]
        refine Bx2.below (B := w.heap.size + 1) ?_ ?_ (by omega) (w := w.alloc (.cells #[.int .i64 r, .int .i64 c] 38))
        · exact Bx2.new w r c
        · rw [hW0]; exact (by repeat (first | (with_reducible exact Below.refl _ _) | (with_reducible refine below_ov ?_ ?_) | (with_reducible refine Below.setCell ?_ ?_ _) | (with_reducible refine Below.alloc ?_ ?_ _) | (with_reducible refine Below.drew ?_) | (with_reducible refine below_drewN ?_ _) | (refine Below.trans ?_ (Below.mono ‹Below _ _ _› (by first | omega | (simp; done) | (simp; omega)))) | exact Below.refl _ _ | omega | (focus (simp; done)) | (focus (simp; omega))))
      · rw [htb, b2.block _ (by omega)]
        have h := heap_alloc_new ((w.alloc (.cells #[.int .i64 r, .int .i64 c] 38))) (.cells #[.int .i64 3, .int .i64 0, .int .i64 1, .int .i64 2] 3)
        simp at h
        simpa [trn] using h
      · have h := (World.ownsRow_lit (base := ab + 1) (e := 38) (size := 2) ((w.alloc (.cells #[.int .i64 r, .int .i64 c] 38)).alloc (.cells #[.int .i64 3, .int .i64 0, .int .i64 1, .int .i64 2] 3)) #[.int .i64 r, .int .i64 c] 1 (by simp; omega) (by unfold maxLen; omega) rfl).alloc (.map #[] 0)
        rw [hW0, hyb]
        simpa [rowL, iiC, hwR, hwC, hwP_zero, List.range, List.range.loop] using h
    have HP0 : Hid (StepMap W0 mb 0 (fun _ _ _ => false)) := by
      have h := StepMap.made (((w.alloc (.cells #[.int .i64 r, .int .i64 c] 38)).alloc (.cells #[.int .i64 3, .int .i64 0, .int .i64 1, .int .i64 2] 3)).alloc (.cells #[.int .i64 r, .int .i64 c] 38))
      show StepMap _ _ _ _
      rw [hW0, hmb]
      simpa using h
    have hsz0 : W0.heap.size = w.heap.size + 4 := by rw [hW0]; simp
    have LM0 : Hid (ab ≠ mb ∧ tb ≠ mb ∧ w.heap.size ≤ mb) := by show _ ∧ _ ∧ _; omega
    rw [← hW0, ← hmb, ← hyb, ← htb, ← hab]
    have HSW := hide hsz0
    clear b1 b2 hW0 hab htb hmb hyb hsz0
    go_loopg [8, 9] (4 * (n * (F 0).size) + 1) (fun gn wv lv wr => ∃ (t m : Nat) (Q : Int → Int → Int → Bool), lv = .int .i64 (hwL F n true (r, c) t : Nat) ∧ 4 * (n * (F 0).size) - t < gn ∧ m ≤ t ∧ Hid (∀ s, s < t → hwX F n true (r, c) s = false) ∧ Hid (HMem w wr ab tb true (hwP F n true (r, c) t) t wv (hwR F n true (r, c)) (hwC F n true (r, c))) ∧ Hid (StepMap wr mb m Q) ∧ Hid (hwQ F n true (r, c) t Q))
    case atStart => exact ⟨0, 0, _, by rw [hwL_zero]; rfl, by omega, by omega, fun s hs => absurd hs (Nat.not_lt_zero _), HM0.out, HP0.out, hwQ_zero⟩
    case round =>
      obtain ⟨t, m, Q, rfl, hgt, hmt, HX, HM, HS, HQ⟩ := hrel
      have HOP : Hid (opP F n (hwP F n true (r, c) t) = true) := hwP_open HA.out HX.out
      have hl4 := hwL_lt (F := F) (n := n) (b := true) (a := (r, c)) t
      obtain ⟨l, hl⟩ : ∃ l, l = hwL F n true (r, c) t := ⟨_, rfl⟩
      rw [← hl] at hl4
      rw [← hl]
      have HL := hide hl
      clear hl
      obtain ⟨p, hp⟩ : ∃ p, p = hwP F n true (r, c) t := ⟨_, rfl⟩
      rw [← hp] at HM HOP
      have HPP := hide hp
      clear hp
      have ht576 : t ≤ 576 := by
        have h1 := hw_le HA.out HX.out
        have h2 := (fl_area HG.out).2
        omega
      go_wp2_with fail
      obtain ⟨wo, ewo⟩ : ∃ wo : World, wo = wr := ⟨_, rfl⟩
      subst ewo
      go_loopg [11, 24] 5 (fun gn dv jv wr => ∃ j : Nat, dv = .int .i64 (-1) ∧ jv = .int .i64 j ∧ j ≤ 4 ∧ 4 - j < gn ∧ Hid (∀ i, i < j → opP F n (stp p (hdI true l i)) = false) ∧ Hid (Below wo.heap.size wo wr))
      case atStart => exact ⟨0, rfl, rfl, by omega, by omega, fun i hi => absurd hi (Nat.not_lt_zero _), Below.refl _ _⟩
      case round =>
        obtain ⟨j, rfl, rfl, hj, hgj, HJ, HB⟩ := hrel
        have M1 := hide (HM.out.below HB.out)
        by_cases hj4 : j < 4
        · have htc := M1.out.turn hj4
          have hz := M1.out.bel.size
          have ltb := M1.out.tlt
          have hd4 := hdI_lt true l j
          obtain ⟨z1, z2⟩ := hdI_rem true l j hl4 hj4
          obtain ⟨d, hd⟩ : ∃ d, d = hdI true l j := ⟨_, rfl⟩
          rw [← hd] at hd4 z2
          obtain ⟨tj, htj⟩ : ∃ tj, tj = trn true j := ⟨_, rfl⟩
          rw [← htj] at htc z1 z2
          have HD := hide hd
          obtain ⟨y, hy⟩ : ∃ y, stp p d = y := ⟨_, rfl⟩
          have HY := hide hy
          obtain ⟨b1, b2, b3, b4⟩ := opP_bd HOP.out
          obtain ⟨g1, g2, g3, g4, _, _⟩ := flB_facts HG.out
          obtain ⟨p0, p1, pf, pl⟩ := M1.out.box
          have hix : ∀ W, (Instr.index 9 (.string ⟨#[110, 101, 115, 119]⟩) (.int .i64 d)).run Tryd.prog W = .ok (.int .u8 (dL d)) W := fun W => nesw_at hd4 _ Tryd.underlying9 W
          clear hd htj hy
          go_wp2_with fail
          clear htc
          (refine wp_region_below_lit (by kernel_rfl) (by kernel_rfl) ?_; (repeat (first | go_big_quiet_step ((first | (go_at_call 75; exact quiet_ov (stepTo_p p y d _ HY.out hd4 (by omega) (by omega) (by omega) (by omega))) | (go_at_call 59; exact quiet_ov (isOpen_any F n y.1 y.2 lo hi _ _ (HV.out.below (B := w.heap.size) (below_ov M1.out.bel (by omega)) hhi) (by simp [ov]; omega) HG.out)))) | quiet_step ((first | (go_at_call 75; exact quiet_ov (stepTo_p p y d _ HY.out hd4 (by omega) (by omega) (by omega) (by omega))) | (go_at_call 59; exact quiet_ov (isOpen_any F n y.1 y.2 lo hi _ _ (HV.out.below (B := w.heap.size) (below_ov M1.out.bel (by omega)) hhi) (by simp [ov]; omega) HG.out)))))); refine wpQuiet_nil ?_; intro w2 hb2; have hz2 := hb2.size; (try (simp at hz2)); obtain ⟨hcw2, hfw2⟩ := bcell hb2; (try (have hy2 : w.heap.size < w2.heap.size := by omega)); (try (have hyy2 : w.heap.size + 1 < w2.heap.size := by omega)))
          have M2 := hide (M1.out.below hb2)
          have HB2 : Hid (Below wo.heap.size wo w2) := HB.out.trans (hb2.mono HB.out.size)
          clear p0 p1 pf pl hcw2 hfw2 hb2 hix z1 z2
          cases e1 : opB F n y.1 y.2 with
          | false =>
            have HJ2 : Hid (∀ i, i < j + 1 → opP F n (stp p (hdI true l i)) = false) := upto_snocF (p := fun i => opP F n (stp p (hdI true l i))) HJ.out (by show opP F n (stp p (hdI true l j)) = false; rw [← HD.out, HY.out]; exact e1)
            go_wp2_with fail
            go_roundg (4 - j)
            case measure => omega
            case rel => exact ⟨j + 1, rfl, by go_num, by omega, by omega, HJ2.out, HB2.out⟩
          | true =>
            have HHJ : Hid (hwJ F n true (r, c) t = (d : Int)) := by
              have h := hdJ_hit hj4 HJ.out (by rw [← HD.out, HY.out]; exact e1)
              show hdJ F n true (hwP F n true (r, c) t) (hwL F n true (r, c) t) 4 = _
              rw [← HPP.out, ← HL.out, h, HD.out]
            have S2 : Hid (StepMap w2 mb m Q) := HS.out.keep (HB2.out.block _ HS.out.lt)
            have HXE : Hid (hwX F n true (r, c) t = Q p.1 p.2 d) := by
              show _ = _
              rw [hwX, HHJ.out, HQ.out p d HOP.out hd4, hwCd, HHJ.out, ← HPP.out, decide_eq_false (by omega)]
              simp
            obtain ⟨p0, p1, pf, pl⟩ := M2.out.box
            have hlk := S2.out.look p.1 p.2 d (wf_small (by omega)) (wf_small (by omega)) (wf_small (by omega))
            obtain ⟨qb, hqb⟩ : ∃ qb, Q p.1 p.2 d = qb := ⟨_, rfl⟩
            rw [hqb] at hlk HXE
            clear hqb
            cases qb with
            | true =>
              clear e1
              go_wp2_with fail
              go_ret
              exact hw_end HA.out HX.out HXE.out M2.out
            | false =>
              obtain ⟨w3, hup, hS3, hg3⟩ := S2.out.store p.1 p.2 d (wf_small (by omega)) (wf_small (by omega)) (wf_small (by omega)) (by unfold maxLen; omega)
              have HX2 : Hid (∀ s, s < t + 1 → hwX F n true (r, c) s = false) := upto_snocF (p := hwX F n true (r, c)) HX.out HXE.out
              have S3 := hide hS3
              have lmb := S2.out.lt
              obtain ⟨es, ck, hes⟩ := S2.out.isMap
              have M3 : Hid (HMem w w3 ab tb true p t u8 (hwR F n true (r, c)) (hwC F n true (r, c))) :=
                M2.out.keep (fun k hk hq => hg3.block k hk (fun e => M2.out.apart hes (fun _ _ h => by cases h) (fun _ _ h => by cases h) LM0.out.1.symm k hk hq (Option.some.inj e))) hg3.size (M2.out.bel.grown hg3 M2.out.bel.size (fun k hk => by have := LM0.out.2.2; injection hk; omega))
              clear hS3 hg3 hes M2
              have HUP := hide hup
              go_wp2_with fail
              clear p0 p1 pf pl hlk hup
              obtain ⟨y2, hy2⟩ : ∃ y2, stp p d = y2 := ⟨_, rfl⟩
              have HY2 := hide hy2
              have HPY : Hid (hwP F n true (r, c) (t + 1) = y2) := by show _ = _; rw [hwP_next, HHJ.out, ← HPP.out]; exact hy2
              have HLY : Hid (hwL F n true (r, c) (t + 1) = d) := by show _ = _; rw [hwL_next, HHJ.out]; rfl
              have HQ2 : Hid (hwQ F n true (r, c) (t + 1) (fun a b' c' => Q a b' c' || decide (a = p.1 ∧ b' = p.2 ∧ c' = (d : Int)))) := by
                have h := hwQ_next HQ.out (by rw [← HPP.out]; exact HOP.out) HHJ.out hd4
                rw [← HPP.out] at h
                exact h
              clear hy2
              have hix : ∀ W, (Instr.index 9 (.string ⟨#[110, 101, 115, 119]⟩) (.int .i64 d)).run Tryd.prog W = .ok (.int .u8 (dL d)) W := fun W => nesw_at hd4 _ Tryd.underlying9 W
              have M3d := hide (M3.out.below (w' := w3.drew) (Below.drew (Below.refl _ _)))
              obtain ⟨p0, p1, pf, pl⟩ := M3d.out.box
              refine wp_region_mix [(1, true), (2, true), (4, true), (0, false), (3, false), (5, false), (6, true)] (fun _ => True) (by kernel_rfl) (by kernel_rfl) (by kernel_rfl) (by kernel_rfl) trivial ?_
              refine mix_look _ _ rfl rfl (fun w' _ => BigFrame.run_move _ rfl w') ?_
              go_simp
              refine mix_look _ (.int .u8 (dL d)) rfl rfl (fun w' hw' => (by go_simp)) ?_
              go_simp
              refine mix_look _ _ rfl rfl (fun w' _ => BigFrame.run_move _ rfl w') ?_
              go_simp
              refine mix_value _ (.agg #[.int .i64 p.1, .int .i64 p.2]) w3.drew rfl rfl (by go_simp) trivial ?_
              go_simp
              refine mix_call _ 75 #[.agg #[.int .i64 p.1, .int .i64 p.2], .int .u8 (dL d)] rfl rfl (by go_simp) ?_
              refine (stepTo_p p y2 d _ HY2.out hd4 (by omega) (by omega) (by omega) (by omega)).mono ?_
              rintro e w6 ⟨rfl, hb6⟩
              refine ⟨_, rfl, trivial, ?_⟩
              go_simp
              have M6 := hide (M3d.out.below hb6)
              have S6 : Hid (StepMap w6 mb (m + 1) (fun a b' c' => Q a b' c' || decide (a = p.1 ∧ b' = p.2 ∧ c' = (d : Int)))) := S3.out.keep (hb6.block _ S3.out.lt)
              clear p0 p1 pf pl hb6 hix
              obtain ⟨p0, p1, pf, pl⟩ := M6.out.box
              obtain ⟨W7, hW7⟩ : ∃ W7, W7 = (w6.setCell ⟨ab, 0, none⟩ (.int .i64 y2.1)).setCell ⟨ab, 1, none⟩ (.int .i64 y2.2) := ⟨_, rfl⟩
              have HW7 := hide hW7
              have M7 : Hid (HMem w W7 ab tb true y2 t u8 (hwR F n true (r, c)) (hwC F n true (r, c))) := by show HMem _ _ _ _ _ _ _ _ _ _; rw [hW7]; exact M6.out.move y2.1 y2.2
              have S7 : Hid (StepMap W7 mb (m + 1) (fun a b' c' => Q a b' c' || decide (a = p.1 ∧ b' = p.2 ∧ c' = (d : Int)))) := by
                show StepMap _ _ _ _
                rw [hW7]
                exact S6.out.keep ((Deep.blk_setCell_other _ _ _ _ (by exact LM0.out.1.symm)).trans (Deep.blk_setCell_other _ _ _ _ (by exact LM0.out.1.symm)))
              clear hW7
              refine mix_store _ W7 rfl rfl (by rw [HW7.out]; go_simp) trivial ?_
              go_simp
              refine mix_look _ _ rfl rfl (fun w' _ => BigFrame.run_assign _ rfl w') ?_
              go_simp
              refine wpMix_nil ?_
              clear p0 p1 pf pl
              obtain ⟨p0, p1, pf, pl⟩ := M7.out.box
              have hal := M7.out.al
              go_wp2_with (at_builtin; refine wpList_append_own _ rfl _ _ 26 rfl (ab + 1) 38 ii (.agg #[.int .i64 0, .int .i64 0]) 2 16 Tryd.underlying26 hii iz0 iz1 iz2 rfl (by decide) _ _ _ rfl (M7.out.row.alloc _) ⟨_, 0, none⟩ 1 1 [.int .i64 y2.1, .int .i64 y2.2] rfl rfl ?_ ?_ ?_ ?_ ?_ ?_)
              · intro i u hu
                match i, hu with
                | 0, hu => simp at hu; subst hu; simp [go_sem, Addr.add]
                | 1, hu => simp at hu; subst hu; simp [go_sem, Addr.add]
              · intro u hu; simp at hu; rcases hu with rfl | rfl <;> rfl
              · unfold maxLen; omega
              · omega
              · simp; omega
              intro v' w8 hown8 hg8 _
              have M8 : Hid (HMem w w8 ab tb true y2 (t + 1) v' (hwR F n true (r, c)) (hwC F n true (r, c))) := by
                refine M7.out.more _ ?_ hg8
                have e : rowL (iiC (hwR F n true (r, c)) (hwC F n true (r, c))) 2 (t + 1 + 1) = rowL (iiC (hwR F n true (r, c)) (hwC F n true (r, c))) 2 (t + 1) ++ [.int .i64 y2.1, .int .i64 y2.2] := by
                  rw [rowL, ← HPY.out]; rfl
                rw [e]
                exact hown8
              have S8 : Hid (StepMap w8 mb (m + 1) (fun a b' c' => Q a b' c' || decide (a = p.1 ∧ b' = p.2 ∧ c' = (d : Int)))) := by
                obtain ⟨es, ck, hes⟩ := S7.out.isMap
                have lmb7 := S7.out.lt
                exact S7.out.keep ((hg8.block mb (by simp; omega) (fun e => row_apart M7.out.row hes (fun _ _ h => by cases h) _ e.symm rfl)).trans (Deep.blk_alloc_lt _ _ _ lmb7))
              clear hown8 hg8 p0 p1 pf pl
              go_wp2_with fail
              have ht4 := hw_le HA.out HX2.out
              go_roundg (4 * (n * (F 0).size) - t)
              case measure => omega
              case rel => exact ⟨t + 1, m + 1, _, by rw [HLY.out], by omega, by omega, HX2.out, (by show HMem _ _ _ _ _ _ _ _ _ _; rw [HPY.out]; exact M8.out), S8.out, HQ2.out⟩
        · have HJ4 : Hid (hwJ F n true (r, c) t = -1) := by
            obtain rfl : j = 4 := by omega
            show hdJ F n true (hwP F n true (r, c) t) (hwL F n true (r, c) t) 4 = -1
            rw [← HPP.out, ← HL.out]
            exact hdJ_no HJ.out
          have HXE : Hid (hwX F n true (r, c) t = true) := by show _ = _; rw [hwX, HJ4.out]; rfl
          go_wp2_with fail
          go_ret
          exact hw_end HA.out HX.out HXE.out M1.out

  | false =>
    go_enter Tryd.func65, Tryd.ntmps65
    go_wp2_with fail
    obtain ⟨ab, hab⟩ : ∃ ab, ab = w.heap.size := ⟨_, rfl⟩
    obtain ⟨tb, htb⟩ : ∃ tb, tb = w.heap.size + 2 := ⟨_, rfl⟩
    obtain ⟨yb, hyb⟩ : ∃ yb, yb = w.heap.size + 3 := ⟨_, rfl⟩
    obtain ⟨mb, hmb⟩ : ∃ mb, mb = w.heap.size + 4 := ⟨_, rfl⟩
    obtain ⟨W0, hW0⟩ : ∃ W0, W0 = (((((w.alloc (.cells #[.int .i64 r, .int .i64 c] 38)).alloc (.cells #[.int .i64 3, .int .i64 0, .int .i64 1, .int .i64 2] 3)).alloc (.cells #[.int .i64 1, .int .i64 0, .int .i64 3, .int .i64 2] 3)).alloc (.cells #[.int .i64 r, .int .i64 c] 38)).alloc (.map #[] 0)) := ⟨_, rfl⟩
    have b1 : Below w.heap.size w (((w.alloc (.cells #[.int .i64 r, .int .i64 c] 38)).alloc (.cells #[.int .i64 3, .int .i64 0, .int .i64 1, .int .i64 2] 3)).alloc (.cells #[.int .i64 1, .int .i64 0, .int .i64 3, .int .i64 2] 3)) := (by repeat (first | (with_reducible exact Below.refl _ _) | (with_reducible refine below_ov ?_ ?_) | (with_reducible refine Below.setCell ?_ ?_ _) | (with_reducible refine Below.alloc ?_ ?_ _) | (with_reducible refine Below.drew ?_) | (with_reducible refine below_drewN ?_ _) | (refine Below.trans ?_ (Below.mono ‹Below _ _ _› (by first | omega | (simp; done) | (simp; omega)))) | exact Below.refl _ _ | omega | (focus (simp; done)) | (focus (simp; omega))))
    have b2 : Below (w.heap.size + 3) (((w.alloc (.cells #[.int .i64 r, .int .i64 c] 38)).alloc (.cells #[.int .i64 3, .int .i64 0, .int .i64 1, .int .i64 2] 3)).alloc (.cells #[.int .i64 1, .int .i64 0, .int .i64 3, .int .i64 2] 3)) W0 := by rw [hW0]; exact ((Below.refl _ _).alloc (by simp) _).alloc (by simp) _
    have HM0 : Hid (HMem w W0 ab tb false (r, c) 0 (.slice (some ⟨yb, 0, none⟩) 1 1) (hwR F n false (r, c)) (hwC F n false (r, c))) := by
      refine ⟨?_, ?_, ?_, by omega, by omega, b1.trans (b2.mono (by omega))⟩
      · rw [hab]
        refine Bx2.below (B := w.heap.size + 1) ?_ ?_ (by omega) (w := w.alloc (.cells #[.int .i64 r, .int .i64 c] 38))
        · exact Bx2.new w r c
        · rw [hW0]; exact (by repeat (first | (with_reducible exact Below.refl _ _) | (with_reducible refine below_ov ?_ ?_) | (with_reducible refine Below.setCell ?_ ?_ _) | (with_reducible refine Below.alloc ?_ ?_ _) | (with_reducible refine Below.drew ?_) | (with_reducible refine below_drewN ?_ _) | (refine Below.trans ?_ (Below.mono ‹Below _ _ _› (by first | omega | (simp; done) | (simp; omega)))) | exact Below.refl _ _ | omega | (focus (simp; done)) | (focus (simp; omega))))
      · rw [htb, b2.block _ (by omega)]
        have h := heap_alloc_new (((w.alloc (.cells #[.int .i64 r, .int .i64 c] 38)).alloc (.cells #[.int .i64 3, .int .i64 0, .int .i64 1, .int .i64 2] 3))) (.cells #[.int .i64 1, .int .i64 0, .int .i64 3, .int .i64 2] 3)
        simp at h
        simpa [trn] using h
      · have h := (World.ownsRow_lit (base := ab + 1) (e := 38) (size := 2) (((w.alloc (.cells #[.int .i64 r, .int .i64 c] 38)).alloc (.cells #[.int .i64 3, .int .i64 0, .int .i64 1, .int .i64 2] 3)).alloc (.cells #[.int .i64 1, .int .i64 0, .int .i64 3, .int .i64 2] 3)) #[.int .i64 r, .int .i64 c] 1 (by simp; omega) (by unfold maxLen; omega) rfl).alloc (.map #[] 0)
        rw [hW0, hyb]
        simpa [rowL, iiC, hwR, hwC, hwP_zero, List.range, List.range.loop] using h
    have HP0 : Hid (StepMap W0 mb 0 (fun _ _ _ => false)) := by
      have h := StepMap.made ((((w.alloc (.cells #[.int .i64 r, .int .i64 c] 38)).alloc (.cells #[.int .i64 3, .int .i64 0, .int .i64 1, .int .i64 2] 3)).alloc (.cells #[.int .i64 1, .int .i64 0, .int .i64 3, .int .i64 2] 3)).alloc (.cells #[.int .i64 r, .int .i64 c] 38))
      show StepMap _ _ _ _
      rw [hW0, hmb]
      simpa using h
    have hsz0 : W0.heap.size = w.heap.size + 5 := by rw [hW0]; simp
    have LM0 : Hid (ab ≠ mb ∧ tb ≠ mb ∧ w.heap.size ≤ mb) := by show _ ∧ _ ∧ _; omega
    rw [← hW0, ← hmb, ← hyb, ← htb, ← hab]
    have HSW := hide hsz0
    clear b1 b2 hW0 hab htb hmb hyb hsz0
    go_loopg [8, 9] (4 * (n * (F 0).size) + 1) (fun gn wv lv wr => ∃ (t m : Nat) (Q : Int → Int → Int → Bool), lv = .int .i64 (hwL F n false (r, c) t : Nat) ∧ 4 * (n * (F 0).size) - t < gn ∧ m ≤ t ∧ Hid (∀ s, s < t → hwX F n false (r, c) s = false) ∧ Hid (HMem w wr ab tb false (hwP F n false (r, c) t) t wv (hwR F n false (r, c)) (hwC F n false (r, c))) ∧ Hid (StepMap wr mb m Q) ∧ Hid (hwQ F n false (r, c) t Q))
    case atStart => exact ⟨0, 0, _, by rw [hwL_zero]; rfl, by omega, by omega, fun s hs => absurd hs (Nat.not_lt_zero _), HM0.out, HP0.out, hwQ_zero⟩
    case round =>
      obtain ⟨t, m, Q, rfl, hgt, hmt, HX, HM, HS, HQ⟩ := hrel
      have HOP : Hid (opP F n (hwP F n false (r, c) t) = true) := hwP_open HA.out HX.out
      have hl4 := hwL_lt (F := F) (n := n) (b := false) (a := (r, c)) t
      obtain ⟨l, hl⟩ : ∃ l, l = hwL F n false (r, c) t := ⟨_, rfl⟩
      rw [← hl] at hl4
      rw [← hl]
      have HL := hide hl
      clear hl
      obtain ⟨p, hp⟩ : ∃ p, p = hwP F n false (r, c) t := ⟨_, rfl⟩
      rw [← hp] at HM HOP
      have HPP := hide hp
      clear hp
      have ht576 : t ≤ 576 := by
        have h1 := hw_le HA.out HX.out
        have h2 := (fl_area HG.out).2
        omega
      go_wp2_with fail
      obtain ⟨wo, ewo⟩ : ∃ wo : World, wo = wr := ⟨_, rfl⟩
      subst ewo
      go_loopg [11, 24] 5 (fun gn dv jv wr => ∃ j : Nat, dv = .int .i64 (-1) ∧ jv = .int .i64 j ∧ j ≤ 4 ∧ 4 - j < gn ∧ Hid (∀ i, i < j → opP F n (stp p (hdI false l i)) = false) ∧ Hid (Below wo.heap.size wo wr))
      case atStart => exact ⟨0, rfl, rfl, by omega, by omega, fun i hi => absurd hi (Nat.not_lt_zero _), Below.refl _ _⟩
      case round =>
        obtain ⟨j, rfl, rfl, hj, hgj, HJ, HB⟩ := hrel
        have M1 := hide (HM.out.below HB.out)
        by_cases hj4 : j < 4
        · have htc := M1.out.turn hj4
          have hz := M1.out.bel.size
          have ltb := M1.out.tlt
          have hd4 := hdI_lt false l j
          obtain ⟨z1, z2⟩ := hdI_rem false l j hl4 hj4
          obtain ⟨d, hd⟩ : ∃ d, d = hdI false l j := ⟨_, rfl⟩
          rw [← hd] at hd4 z2
          obtain ⟨tj, htj⟩ : ∃ tj, tj = trn false j := ⟨_, rfl⟩
          rw [← htj] at htc z1 z2
          have HD := hide hd
          obtain ⟨y, hy⟩ : ∃ y, stp p d = y := ⟨_, rfl⟩
          have HY := hide hy
          obtain ⟨b1, b2, b3, b4⟩ := opP_bd HOP.out
          obtain ⟨g1, g2, g3, g4, _, _⟩ := flB_facts HG.out
          obtain ⟨p0, p1, pf, pl⟩ := M1.out.box
          have hix : ∀ W, (Instr.index 9 (.string ⟨#[110, 101, 115, 119]⟩) (.int .i64 d)).run Tryd.prog W = .ok (.int .u8 (dL d)) W := fun W => nesw_at hd4 _ Tryd.underlying9 W
          clear hd htj hy
          go_wp2_with fail
          clear htc
          (refine wp_region_below_lit (by kernel_rfl) (by kernel_rfl) ?_; (repeat (first | go_big_quiet_step ((first | (go_at_call 75; exact quiet_ov (stepTo_p p y d _ HY.out hd4 (by omega) (by omega) (by omega) (by omega))) | (go_at_call 59; exact quiet_ov (isOpen_any F n y.1 y.2 lo hi _ _ (HV.out.below (B := w.heap.size) (below_ov M1.out.bel (by omega)) hhi) (by simp [ov]; omega) HG.out)))) | quiet_step ((first | (go_at_call 75; exact quiet_ov (stepTo_p p y d _ HY.out hd4 (by omega) (by omega) (by omega) (by omega))) | (go_at_call 59; exact quiet_ov (isOpen_any F n y.1 y.2 lo hi _ _ (HV.out.below (B := w.heap.size) (below_ov M1.out.bel (by omega)) hhi) (by simp [ov]; omega) HG.out)))))); refine wpQuiet_nil ?_; intro w2 hb2; have hz2 := hb2.size; (try (simp at hz2)); obtain ⟨hcw2, hfw2⟩ := bcell hb2; (try (have hy2 : w.heap.size < w2.heap.size := by omega)); (try (have hyy2 : w.heap.size + 1 < w2.heap.size := by omega)))
          have M2 := hide (M1.out.below hb2)
          have HB2 : Hid (Below wo.heap.size wo w2) := HB.out.trans (hb2.mono HB.out.size)
          clear p0 p1 pf pl hcw2 hfw2 hb2 hix z1 z2
          cases e1 : opB F n y.1 y.2 with
          | false =>
            have HJ2 : Hid (∀ i, i < j + 1 → opP F n (stp p (hdI false l i)) = false) := upto_snocF (p := fun i => opP F n (stp p (hdI false l i))) HJ.out (by show opP F n (stp p (hdI false l j)) = false; rw [← HD.out, HY.out]; exact e1)
            go_wp2_with fail
            go_roundg (4 - j)
            case measure => omega
            case rel => exact ⟨j + 1, rfl, by go_num, by omega, by omega, HJ2.out, HB2.out⟩
          | true =>
            have HHJ : Hid (hwJ F n false (r, c) t = (d : Int)) := by
              have h := hdJ_hit hj4 HJ.out (by rw [← HD.out, HY.out]; exact e1)
              show hdJ F n false (hwP F n false (r, c) t) (hwL F n false (r, c) t) 4 = _
              rw [← HPP.out, ← HL.out, h, HD.out]
            have S2 : Hid (StepMap w2 mb m Q) := HS.out.keep (HB2.out.block _ HS.out.lt)
            have HXE : Hid (hwX F n false (r, c) t = Q p.1 p.2 d) := by
              show _ = _
              rw [hwX, HHJ.out, HQ.out p d HOP.out hd4, hwCd, HHJ.out, ← HPP.out, decide_eq_false (by omega)]
              simp
            obtain ⟨p0, p1, pf, pl⟩ := M2.out.box
            have hlk := S2.out.look p.1 p.2 d (wf_small (by omega)) (wf_small (by omega)) (wf_small (by omega))
            obtain ⟨qb, hqb⟩ : ∃ qb, Q p.1 p.2 d = qb := ⟨_, rfl⟩
            rw [hqb] at hlk HXE
            clear hqb
            cases qb with
            | true =>
              clear e1
              go_wp2_with fail
              go_ret
              exact hw_end HA.out HX.out HXE.out M2.out
            | false =>
              obtain ⟨w3, hup, hS3, hg3⟩ := S2.out.store p.1 p.2 d (wf_small (by omega)) (wf_small (by omega)) (wf_small (by omega)) (by unfold maxLen; omega)
              have HX2 : Hid (∀ s, s < t + 1 → hwX F n false (r, c) s = false) := upto_snocF (p := hwX F n false (r, c)) HX.out HXE.out
              have S3 := hide hS3
              have lmb := S2.out.lt
              obtain ⟨es, ck, hes⟩ := S2.out.isMap
              have M3 : Hid (HMem w w3 ab tb false p t u8 (hwR F n false (r, c)) (hwC F n false (r, c))) :=
                M2.out.keep (fun k hk hq => hg3.block k hk (fun e => M2.out.apart hes (fun _ _ h => by cases h) (fun _ _ h => by cases h) LM0.out.1.symm k hk hq (Option.some.inj e))) hg3.size (M2.out.bel.grown hg3 M2.out.bel.size (fun k hk => by have := LM0.out.2.2; injection hk; omega))
              clear hS3 hg3 hes M2
              have HUP := hide hup
              go_wp2_with fail
              clear p0 p1 pf pl hlk hup
              obtain ⟨y2, hy2⟩ : ∃ y2, stp p d = y2 := ⟨_, rfl⟩
              have HY2 := hide hy2
              have HPY : Hid (hwP F n false (r, c) (t + 1) = y2) := by show _ = _; rw [hwP_next, HHJ.out, ← HPP.out]; exact hy2
              have HLY : Hid (hwL F n false (r, c) (t + 1) = d) := by show _ = _; rw [hwL_next, HHJ.out]; rfl
              have HQ2 : Hid (hwQ F n false (r, c) (t + 1) (fun a b' c' => Q a b' c' || decide (a = p.1 ∧ b' = p.2 ∧ c' = (d : Int)))) := by
                have h := hwQ_next HQ.out (by rw [← HPP.out]; exact HOP.out) HHJ.out hd4
                rw [← HPP.out] at h
                exact h
              clear hy2
              have hix : ∀ W, (Instr.index 9 (.string ⟨#[110, 101, 115, 119]⟩) (.int .i64 d)).run Tryd.prog W = .ok (.int .u8 (dL d)) W := fun W => nesw_at hd4 _ Tryd.underlying9 W
              have M3d := hide (M3.out.below (w' := w3.drew) (Below.drew (Below.refl _ _)))
              obtain ⟨p0, p1, pf, pl⟩ := M3d.out.box
              refine wp_region_mix [(1, true), (2, true), (4, true), (0, false), (3, false), (5, false), (6, true)] (fun _ => True) (by kernel_rfl) (by kernel_rfl) (by kernel_rfl) (by kernel_rfl) trivial ?_
              refine mix_look _ _ rfl rfl (fun w' _ => BigFrame.run_move _ rfl w') ?_
              go_simp
              refine mix_look _ (.int .u8 (dL d)) rfl rfl (fun w' hw' => (by go_simp)) ?_
              go_simp
              refine mix_look _ _ rfl rfl (fun w' _ => BigFrame.run_move _ rfl w') ?_
              go_simp
              refine mix_value _ (.agg #[.int .i64 p.1, .int .i64 p.2]) w3.drew rfl rfl (by go_simp) trivial ?_
              go_simp
              refine mix_call _ 75 #[.agg #[.int .i64 p.1, .int .i64 p.2], .int .u8 (dL d)] rfl rfl (by go_simp) ?_
              refine (stepTo_p p y2 d _ HY2.out hd4 (by omega) (by omega) (by omega) (by omega)).mono ?_
              rintro e w6 ⟨rfl, hb6⟩
              refine ⟨_, rfl, trivial, ?_⟩
              go_simp
              have M6 := hide (M3d.out.below hb6)
              have S6 : Hid (StepMap w6 mb (m + 1) (fun a b' c' => Q a b' c' || decide (a = p.1 ∧ b' = p.2 ∧ c' = (d : Int)))) := S3.out.keep (hb6.block _ S3.out.lt)
              clear p0 p1 pf pl hb6 hix
              obtain ⟨p0, p1, pf, pl⟩ := M6.out.box
              obtain ⟨W7, hW7⟩ : ∃ W7, W7 = (w6.setCell ⟨ab, 0, none⟩ (.int .i64 y2.1)).setCell ⟨ab, 1, none⟩ (.int .i64 y2.2) := ⟨_, rfl⟩
              have HW7 := hide hW7
              have M7 : Hid (HMem w W7 ab tb false y2 t u8 (hwR F n false (r, c)) (hwC F n false (r, c))) := by show HMem _ _ _ _ _ _ _ _ _ _; rw [hW7]; exact M6.out.move y2.1 y2.2
              have S7 : Hid (StepMap W7 mb (m + 1) (fun a b' c' => Q a b' c' || decide (a = p.1 ∧ b' = p.2 ∧ c' = (d : Int)))) := by
                show StepMap _ _ _ _
                rw [hW7]
                exact S6.out.keep ((Deep.blk_setCell_other _ _ _ _ (by exact LM0.out.1.symm)).trans (Deep.blk_setCell_other _ _ _ _ (by exact LM0.out.1.symm)))
              clear hW7
              refine mix_store _ W7 rfl rfl (by rw [HW7.out]; go_simp) trivial ?_
              go_simp
              refine mix_look _ _ rfl rfl (fun w' _ => BigFrame.run_assign _ rfl w') ?_
              go_simp
              refine wpMix_nil ?_
              clear p0 p1 pf pl
              obtain ⟨p0, p1, pf, pl⟩ := M7.out.box
              have hal := M7.out.al
              go_wp2_with (at_builtin; refine wpList_append_own _ rfl _ _ 26 rfl (ab + 1) 38 ii (.agg #[.int .i64 0, .int .i64 0]) 2 16 Tryd.underlying26 hii iz0 iz1 iz2 rfl (by decide) _ _ _ rfl (M7.out.row.alloc _) ⟨_, 0, none⟩ 1 1 [.int .i64 y2.1, .int .i64 y2.2] rfl rfl ?_ ?_ ?_ ?_ ?_ ?_)
              · intro i u hu
                match i, hu with
                | 0, hu => simp at hu; subst hu; simp [go_sem, Addr.add]
                | 1, hu => simp at hu; subst hu; simp [go_sem, Addr.add]
              · intro u hu; simp at hu; rcases hu with rfl | rfl <;> rfl
              · unfold maxLen; omega
              · omega
              · simp; omega
              intro v' w8 hown8 hg8 _
              have M8 : Hid (HMem w w8 ab tb false y2 (t + 1) v' (hwR F n false (r, c)) (hwC F n false (r, c))) := by
                refine M7.out.more _ ?_ hg8
                have e : rowL (iiC (hwR F n false (r, c)) (hwC F n false (r, c))) 2 (t + 1 + 1) = rowL (iiC (hwR F n false (r, c)) (hwC F n false (r, c))) 2 (t + 1) ++ [.int .i64 y2.1, .int .i64 y2.2] := by
                  rw [rowL, ← HPY.out]; rfl
                rw [e]
                exact hown8
              have S8 : Hid (StepMap w8 mb (m + 1) (fun a b' c' => Q a b' c' || decide (a = p.1 ∧ b' = p.2 ∧ c' = (d : Int)))) := by
                obtain ⟨es, ck, hes⟩ := S7.out.isMap
                have lmb7 := S7.out.lt
                exact S7.out.keep ((hg8.block mb (by simp; omega) (fun e => row_apart M7.out.row hes (fun _ _ h => by cases h) _ e.symm rfl)).trans (Deep.blk_alloc_lt _ _ _ lmb7))
              clear hown8 hg8 p0 p1 pf pl
              go_wp2_with fail
              have ht4 := hw_le HA.out HX2.out
              go_roundg (4 * (n * (F 0).size) - t)
              case measure => omega
              case rel => exact ⟨t + 1, m + 1, _, by rw [HLY.out], by omega, by omega, HX2.out, (by show HMem _ _ _ _ _ _ _ _ _ _; rw [HPY.out]; exact M8.out), S8.out, HQ2.out⟩
        · have HJ4 : Hid (hwJ F n false (r, c) t = -1) := by
            obtain rfl : j = 4 := by omega
            show hdJ F n false (hwP F n false (r, c) t) (hwL F n false (r, c) t) 4 = -1
            rw [← HPP.out, ← HL.out]
            exact hdJ_no HJ.out
          have HXE : Hid (hwX F n false (r, c) t = true) := by show _ = _; rw [hwX, HJ4.out]; rfl
          go_wp2_with fail
          go_ret
          exact hw_end HA.out HX.out HXE.out M1.out


end Go.Proofs.YtpckhpkbdanjoaaDoor
