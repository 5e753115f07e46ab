/-
  FnExactAddPeriod: the law returns true at every input. No condition.
-/
import Derived.Test.YtmonfljjdngfeaaOPeriod
import Derived.Test.YtmonfljjdngfeaaDPeriod
import Derived.Test.YtmonfljjdngfeaaMPeriod
import Derived.Test.YtmonfljjdngfeaaPSz2
import Derived.Test.YtmonfljjdngfeaaWAddP
import Derived.Test.YtmonfljjdngfeaaWPerZ
import Derived.Test.YtmonfljjdngfeaaFrame
import Derived.Test.YtmonfljjdngfeaaMix
import Derived.BigRegion
namespace Go.Proofs.Ytmonfljjdngfeaa
set_option linter.unusedVariables false
set_option linter.unusedSimpArgs false
open Go.ChangeShapes Go.WideShapes Go.ChangeAt Go.RowKit Go.Joins Go.Deep

theorem Own.only {w w' : World} {lo hi lo' hi' E sz n k : Nat} {v : Value} {c : Nat → Nat → Value} (h : Own w lo' hi' E sz v n k c) (hO : Only lo hi w w') (hd : hi' ≤ lo ∨ hi ≤ lo') (hs : hi' ≤ w.heap.size) : Own w' lo' hi' E sz v n k c :=
  h.keep fun b h1 h2 => hO.block b (by omega) (by omega)
set_option maxRecDepth 100000 in
set_option maxHeartbeats 3200000 in
theorem FnExactAddPeriod_walk (A : Option Addr) (n cap : Nat) (c : Nat → ByteArray) (a b : Nat → Int) (s : ByteArray) (x y : Int) (w : World) (hcap : n ≤ cap) (hmax : cap ≤ maxLen) (hA : SlA w 0 w.heap.size 3 A n (siiC c a b)) (hsz : ∀ i, i < n → (c i).size ≤ maxLen) (hms : s.size ≤ maxLen) :
    Calls Try.prog 3 #[.slice A n cap, .agg #[.string s, .int .i64 x, .int .i64 y]] w fun e w' => e = .returned (.bool true) ∧ Below w.heap.size w w' := by
  unfold maxLen at hmax
  have hS : Sl w 0 w.heap.size 3 (.slice A n cap) n (siiC c a b) := hA.shut hcap
  clear hA
  cases hd : decide (szPF 1048576 c n < 0) with
  | true =>
    have HPX : Hid (∀ W, Below (w.heap.size + 1) (w.alloc (.cells #[.string s, .int .i64 x, .int .i64 y] 24)) W → W.cell? ⟨w.heap.size, 0, none⟩ = some (.string s) ∧ W.cell? ⟨w.heap.size, 1, none⟩ = some (.int .i64 x) ∧ W.cell? ⟨w.heap.size, 2, none⟩ = some (.int .i64 y)) := fun W hW => ⟨(hW.cell (p := ⟨w.heap.size, 0, none⟩) (by show w.heap.size < w.heap.size + 1; omega)).trans (World.cell?_alloc_at _ _ _ _ (by simp)), (hW.cell (p := ⟨w.heap.size, 1, none⟩) (by show w.heap.size < w.heap.size + 1; omega)).trans (World.cell?_alloc_at _ _ _ _ (by simp)), (hW.cell (p := ⟨w.heap.size, 2, none⟩) (by show w.heap.size < w.heap.size + 1; omega)).trans (World.cell?_alloc_at _ _ _ _ (by simp))⟩
    go_enter Try.func3, Try.ntmps3
    go_wp2_with fail
    refine (szPeriodS_any c a b n 1048576 0 w.heap.size _ _ (hS.below (B := w.heap.size) (by repeat (first | (with_reducible exact Below.refl _ _) | (with_reducible refine below_ov ?_ ?_) | (with_reducible refine Below.setCell ?_ ?_ _) | (with_reducible refine Below.alloc ?_ ?_ _) | (with_reducible refine Below.drew ?_) | (with_reducible refine below_drewN ?_ _) | (refine Below.trans ?_ (Below.mono ‹Below _ _ _› (by first | omega | (simp; done) | (simp; omega)))) | exact Below.refl _ _ | omega | (focus (simp; done)) | (focus (simp; omega)))) (Nat.le_refl _)) (by first | omega | (simp; done) | (simp; omega)) (by omega) (by omega) (by omega) hsz).mono ?_
    rintro e w1 ⟨rfl, hb1⟩
    have hz1 := hb1.size
    (try (simp at hz1))
    go_wp2_with fail
    go_ret
    exact ⟨rfl, (by repeat (first | (with_reducible exact Below.refl _ _) | (with_reducible refine below_ov ?_ ?_) | (with_reducible refine Below.setCell ?_ ?_ _) | (with_reducible refine Below.alloc ?_ ?_ _) | (with_reducible refine Below.drew ?_) | (with_reducible refine below_drewN ?_ _) | (refine Below.trans ?_ (Below.mono ‹Below _ _ _› (by first | omega | (simp; done) | (simp; omega)))) | exact Below.refl _ _ | omega | (focus (simp; done)) | (focus (simp; omega))))⟩
  | false =>
    have hd0 := Int.not_lt.1 (of_decide_eq_false hd)
    have hn := szPF_n hd0
    have hf : pfits c n := ⟨by omega, hsz⟩
    have HQP := hide (siiL_self c a b n)
    have hle : szPF 1048576 c n ≤ 1048576 := szPF_le c n
    by_cases hm : szPF 1048576 c n < s.size
    · have HD2 : Hid (sz1F (szPF 1048576 c n) s.size = -1) := by show _ = _; rw [sz1F, if_pos hm]
      have HPX : Hid (∀ W, Below (w.heap.size + 1) (w.alloc (.cells #[.string s, .int .i64 x, .int .i64 y] 24)) W → W.cell? ⟨w.heap.size, 0, none⟩ = some (.string s) ∧ W.cell? ⟨w.heap.size, 1, none⟩ = some (.int .i64 x) ∧ W.cell? ⟨w.heap.size, 2, none⟩ = some (.int .i64 y)) := fun W hW => ⟨(hW.cell (p := ⟨w.heap.size, 0, none⟩) (by show w.heap.size < w.heap.size + 1; omega)).trans (World.cell?_alloc_at _ _ _ _ (by simp)), (hW.cell (p := ⟨w.heap.size, 1, none⟩) (by show w.heap.size < w.heap.size + 1; omega)).trans (World.cell?_alloc_at _ _ _ _ (by simp)), (hW.cell (p := ⟨w.heap.size, 2, none⟩) (by show w.heap.size < w.heap.size + 1; omega)).trans (World.cell?_alloc_at _ _ _ _ (by simp))⟩
      go_enter Try.func3, Try.ntmps3
      go_wp2_with fail
      refine (szPeriodS_any c a b n 1048576 0 w.heap.size _ _ (hS.below (B := w.heap.size) (by repeat (first | (with_reducible exact Below.refl _ _) | (with_reducible refine below_ov ?_ ?_) | (with_reducible refine Below.setCell ?_ ?_ _) | (with_reducible refine Below.alloc ?_ ?_ _) | (with_reducible refine Below.drew ?_) | (with_reducible refine below_drewN ?_ _) | (refine Below.trans ?_ (Below.mono ‹Below _ _ _› (by first | omega | (simp; done) | (simp; omega)))) | exact Below.refl _ _ | omega | (focus (simp; done)) | (focus (simp; omega)))) (Nat.le_refl _)) (by first | omega | (simp; done) | (simp; omega)) (by omega) (by omega) (by omega) hsz).mono ?_
      rintro e w1 ⟨rfl, hb1⟩
      have hz1 := hb1.size
      (try (simp at hz1))
      obtain ⟨px0, px1, px2⟩ := HPX.out w1 (by repeat (first | (with_reducible exact Below.refl _ _) | (with_reducible refine below_ov ?_ ?_) | (with_reducible refine Below.setCell ?_ ?_ _) | (with_reducible refine Below.alloc ?_ ?_ _) | (with_reducible refine Below.drew ?_) | (with_reducible refine below_drewN ?_ _) | (refine Below.trans ?_ (Below.mono ‹Below _ _ _› (by first | omega | (simp; done) | (simp; omega)))) | exact Below.refl _ _ | omega | (focus (simp; done)) | (focus (simp; omega))))
      go_wp2_with fail
      refine (szPeriod_any s x y (szPF 1048576 c n) _ (by omega) (by omega) hms).mono ?_
      rintro e w2 ⟨rfl, hb2⟩
      have hz2 := hb2.size
      (try (simp at hz2))
      clear px0 px1 px2
      rw [HD2.out]
      go_wp2_with fail
      go_ret
      exact ⟨rfl, (by repeat (first | (with_reducible exact Below.refl _ _) | (with_reducible refine below_ov ?_ ?_) | (with_reducible refine Below.setCell ?_ ?_ _) | (with_reducible refine Below.alloc ?_ ?_ _) | (with_reducible refine Below.drew ?_) | (with_reducible refine below_drewN ?_ _) | (refine Below.trans ?_ (Below.mono ‹Below _ _ _› (by first | omega | (simp; done) | (simp; omega)))) | exact Below.refl _ _ | omega | (focus (simp; done)) | (focus (simp; omega))))⟩
    · have HD2 : Hid (sz1F (szPF 1048576 c n) s.size = szPF 1048576 c n - s.size) := by show _ = _; rw [sz1F, if_neg hm]
      have hd2 : decide (szPF 1048576 c n - (s.size : Int) < 0) = false := decide_eq_false (by omega)
      obtain ⟨N, hN⟩ : ∃ N : Nat, N = adN c a b n s x y := ⟨_, rfl⟩
      obtain ⟨g0, hg0⟩ : ∃ g0 : Nat → ByteArray, g0 = adS c (adK c a n s x) s := ⟨_, rfl⟩
      obtain ⟨g1, hg1⟩ : ∃ g1 : Nat → Int, g1 = adI a (adK c a n s x) x := ⟨_, rfl⟩
      obtain ⟨g2, hg2⟩ : ∃ g2 : Nat → Int, g2 = adI b (adK c a n s x) y := ⟨_, rfl⟩
      have hNn : N ≤ 1048576 := by
        rw [hN]
        exact adN_le12
      have HI := hide (siiL_self g0 g1 g2 N)
      have RS : ∀ (lo0 hi0 : Nat) (v0 : Value) (W : World), Sl W lo0 hi0 3 v0 n (siiC c a b) → hi0 ≤ W.heap.size → Calls Try.prog 6 #[v0, .agg #[.string s, .int .i64 x, .int .i64 y]] W fun e w' => ∃ v', e = .returned (.tuple #[v', .bool (adOk c a b n s x y)]) ∧ Own w' W.heap.size w'.heap.size 31 3 v' N N (siiC g0 g1 g2) ∧ Below W.heap.size W w' := by
        intro lo0 hi0 v0 W h0 h0'
        rw [hN, hg0, hg1, hg2]
        exact AddPeriod_spec c a b n s x y lo0 hi0 v0 W h0 h0' hf hms
      have RI : ∀ (lo0 hi0 : Nat) (v0 : Value) (W : World), Sl W lo0 hi0 3 v0 n (siiC c a b) → hi0 ≤ W.heap.size → Calls Try.prog 9 #[v0, .agg #[.string s, .int .i64 x, .int .i64 y]] W fun e w' => ∃ v', e = .returned (.tuple #[v', .bool (adOk c a b n s x y)]) ∧ Own w' W.heap.size w'.heap.size 31 3 v' N N (siiC g0 g1 g2) ∧ Below W.heap.size W w' := by
        intro lo0 hi0 v0 W h0 h0'
        rw [hN, hg0, hg1, hg2]
        exact AddPeriod_impl c a b n s x y lo0 hi0 v0 W h0 h0' hf hms
      have HRS := hide RS
      have HRI := hide RI
      clear RS RI hN hg0 hg1 hg2
      have d9 : decide (1 + (n : Int) * 3 < 0) = false := decide_eq_false (by omega)
      have d9' : decide (1 + (N : Int) * 3 < 0) = false := decide_eq_false (by omega)
      have HPX : Hid (∀ W, Below (w.heap.size + 1) (w.alloc (.cells #[.string s, .int .i64 x, .int .i64 y] 24)) W → W.cell? ⟨w.heap.size, 0, none⟩ = some (.string s) ∧ W.cell? ⟨w.heap.size, 1, none⟩ = some (.int .i64 x) ∧ W.cell? ⟨w.heap.size, 2, none⟩ = some (.int .i64 y)) := fun W hW => ⟨(hW.cell (p := ⟨w.heap.size, 0, none⟩) (by show w.heap.size < w.heap.size + 1; omega)).trans (World.cell?_alloc_at _ _ _ _ (by simp)), (hW.cell (p := ⟨w.heap.size, 1, none⟩) (by show w.heap.size < w.heap.size + 1; omega)).trans (World.cell?_alloc_at _ _ _ _ (by simp)), (hW.cell (p := ⟨w.heap.size, 2, none⟩) (by show w.heap.size < w.heap.size + 1; omega)).trans (World.cell?_alloc_at _ _ _ _ (by simp))⟩
      go_enter Try.func3, Try.ntmps3
      go_wp2_with fail
      refine (szPeriodS_any c a b n 1048576 0 w.heap.size _ _ (hS.below (B := w.heap.size) (by repeat (first | (with_reducible exact Below.refl _ _) | (with_reducible refine below_ov ?_ ?_) | (with_reducible refine Below.setCell ?_ ?_ _) | (with_reducible refine Below.alloc ?_ ?_ _) | (with_reducible refine Below.drew ?_) | (with_reducible refine below_drewN ?_ _) | (refine Below.trans ?_ (Below.mono ‹Below _ _ _› (by first | omega | (simp; done) | (simp; omega)))) | exact Below.refl _ _ | omega | (focus (simp; done)) | (focus (simp; omega)))) (Nat.le_refl _)) (by first | omega | (simp; done) | (simp; omega)) (by omega) (by omega) (by omega) hsz).mono ?_
      rintro e w1 ⟨rfl, hb1⟩
      have hz1 := hb1.size
      (try (simp at hz1))
      obtain ⟨px0, px1, px2⟩ := HPX.out w1 (by repeat (first | (with_reducible exact Below.refl _ _) | (with_reducible refine below_ov ?_ ?_) | (with_reducible refine Below.setCell ?_ ?_ _) | (with_reducible refine Below.alloc ?_ ?_ _) | (with_reducible refine Below.drew ?_) | (with_reducible refine below_drewN ?_ _) | (refine Below.trans ?_ (Below.mono ‹Below _ _ _› (by first | omega | (simp; done) | (simp; omega)))) | exact Below.refl _ _ | omega | (focus (simp; done)) | (focus (simp; omega))))
      go_wp2_with fail
      refine (szPeriod_any s x y (szPF 1048576 c n) _ (by omega) (by omega) hms).mono ?_
      rintro e w2 ⟨rfl, hb2⟩
      have hz2 := hb2.size
      (try (simp at hz2))
      clear px0 px1 px2
      rw [HD2.out]
      have hbc : Below (w.heap.size + 1) (w.alloc (.cells #[.string s, .int .i64 x, .int .i64 y] 24)) w2 := (by repeat (first | (with_reducible exact Below.refl _ _) | (with_reducible refine below_ov ?_ ?_) | (with_reducible refine Below.setCell ?_ ?_ _) | (with_reducible refine Below.alloc ?_ ?_ _) | (with_reducible refine Below.drew ?_) | (with_reducible refine below_drewN ?_ _) | (refine Below.trans ?_ (Below.mono ‹Below _ _ _› (by first | omega | (simp; done) | (simp; omega)))) | exact Below.refl _ _ | omega | (focus (simp; done)) | (focus (simp; omega))))
      have hzd : w2.drew.heap.size = w2.heap.size := rfl
      have HPC : Hid (∀ W, Below w2.heap.size w2.drew W → W.cell? ⟨w.heap.size, 0, none⟩ = some (.string s) ∧ W.cell? ⟨w.heap.size, 1, none⟩ = some (.int .i64 x) ∧ W.cell? ⟨w.heap.size, 2, none⟩ = some (.int .i64 y)) := fun W hW => HPX.out W ((Below.drew hbc).trans (hW.mono (by omega)))
      clear hbc
      go_wp2_with fail
      refine wp_region_mix [(0, true), (2, true), (1, false), (3, false), (4, false), (5, true), (6, true), (7, true), (8, true), (9, true)] (fun w' => Below w2.heap.size w2.drew w') (by kernel_rfl) (by kernel_rfl) (by kernel_rfl) (by kernel_rfl) (Below.refl _ _) ?_
      refine mix_look _ _ rfl rfl (fun w' _ => BigFrame.run_move _ rfl w') ?_
      go_simp
      refine mix_look _ (.agg #[.string s, .int .i64 x, .int .i64 y]) rfl rfl (fun w' hw' => (by obtain ⟨a0, a1, a2⟩ := HPC.out w' hw'; go_simp)) ?_
      go_simp
      refine mix_call _ 7 #[.slice A n cap] rfl rfl (by go_simp) ?_
      refine (toPeriodS_any c a b n _ _ _ _ (hS.below (B := w.heap.size) (by repeat (first | (with_reducible exact Below.refl _ _) | (with_reducible refine below_ov ?_ ?_) | (with_reducible refine Below.setCell ?_ ?_ _) | (with_reducible refine Below.alloc ?_ ?_ _) | (with_reducible refine Below.drew ?_) | (with_reducible refine below_drewN ?_ _) | (refine Below.trans ?_ (Below.mono ‹Below _ _ _› (by first | omega | (simp; done) | (simp; omega)))) | exact Below.refl _ _ | omega | (focus (simp; done)) | (focus (simp; omega)))) (Nat.le_refl _)) (by first | omega | (simp; done) | (simp; omega)) hf.1).mono ?_
      rintro e w3 ⟨v3, rfl, ho3, hb3⟩
      have hz3 := hb3.size
      (try (simp at hz3))
      refine ⟨_, rfl, (by repeat (first | (with_reducible exact Below.refl _ _) | (with_reducible refine below_ov ?_ ?_) | (with_reducible refine Below.setCell ?_ ?_ _) | (with_reducible refine Below.alloc ?_ ?_ _) | (with_reducible refine Below.drew ?_) | (with_reducible refine below_drewN ?_ _) | (refine Below.trans ?_ (Below.mono ‹Below _ _ _› (by first | omega | (simp; done) | (simp; omega)))) | exact Below.refl _ _ | omega | (focus (simp; done)) | (focus (simp; omega)))), ?_⟩
      obtain ⟨A3, c3, rfl, _, _⟩ := ho3.sl.open_
      go_simp
      refine mix_call _ 8 #[.agg #[.string s, .int .i64 x, .int .i64 y]] rfl rfl (by go_simp) ?_
      refine (toPeriod_any s x y _).mono ?_
      rintro e w4 ⟨rfl, hb4⟩
      have hz4 := hb4.size
      (try (simp at hz4))
      refine ⟨_, rfl, (by repeat (first | (with_reducible exact Below.refl _ _) | (with_reducible refine below_ov ?_ ?_) | (with_reducible refine Below.setCell ?_ ?_ _) | (with_reducible refine Below.alloc ?_ ?_ _) | (with_reducible refine Below.drew ?_) | (with_reducible refine below_drewN ?_ _) | (refine Below.trans ?_ (Below.mono ‹Below _ _ _› (by first | omega | (simp; done) | (simp; omega)))) | exact Below.refl _ _ | omega | (focus (simp; done)) | (focus (simp; omega)))), ?_⟩
      go_simp
      refine mix_call _ 6 #[.slice A3 n c3, .agg #[.string s, .int .i64 x, .int .i64 y]] rfl rfl (by go_simp) ?_
      refine (HRS.out _ _ _ _ (ho3.below (B := w3.heap.size) (by repeat (first | (with_reducible exact Below.refl _ _) | (with_reducible refine below_ov ?_ ?_) | (with_reducible refine Below.setCell ?_ ?_ _) | (with_reducible refine Below.alloc ?_ ?_ _) | (with_reducible refine Below.drew ?_) | (with_reducible refine below_drewN ?_ _) | (refine Below.trans ?_ (Below.mono ‹Below _ _ _› (by first | omega | (simp; done) | (simp; omega)))) | exact Below.refl _ _ | omega | (focus (simp; done)) | (focus (simp; omega)))) (Nat.le_refl _)).sl (by first | omega | (simp; done) | (simp; omega))).mono ?_
      rintro e w5 ⟨v5, rfl, ho5, hb5⟩
      have hz5 := hb5.size
      (try (simp at hz5))
      refine ⟨_, rfl, (by repeat (first | (with_reducible exact Below.refl _ _) | (with_reducible refine below_ov ?_ ?_) | (with_reducible refine Below.setCell ?_ ?_ _) | (with_reducible refine Below.alloc ?_ ?_ _) | (with_reducible refine Below.drew ?_) | (with_reducible refine below_drewN ?_ _) | (refine Below.trans ?_ (Below.mono ‹Below _ _ _› (by first | omega | (simp; done) | (simp; omega)))) | exact Below.refl _ _ | omega | (focus (simp; done)) | (focus (simp; omega)))), ?_⟩
      obtain ⟨A5, c5, rfl, _, _⟩ := ho5.sl.open_
      go_simp
      refine mix_look _ _ rfl rfl (fun w' _ => BigFrame.run_move _ rfl w') ?_
      go_simp
      refine mix_look _ (.slice A5 N c5) rfl rfl (fun w' _ => (by go_simp)) ?_
      go_simp
      refine mix_look _ (.bool (adOk c a b n s x y)) rfl rfl (fun w' _ => (by go_simp)) ?_
      go_simp
      refine mix_look _ _ rfl rfl (fun w' _ => BigFrame.run_assign _ rfl w') ?_
      go_simp
      refine mix_look _ _ rfl rfl (fun w' _ => BigFrame.run_assign _ rfl w') ?_
      go_simp
      refine wpMix_nil ?_
      clear HPC
      go_wp2_with fail
      refine (toPeriodS_any c a b n _ _ _ _ (hS.below (B := w.heap.size) (by repeat (first | (with_reducible exact Below.refl _ _) | (with_reducible refine below_ov ?_ ?_) | (with_reducible refine Below.setCell ?_ ?_ _) | (with_reducible refine Below.alloc ?_ ?_ _) | (with_reducible refine Below.drew ?_) | (with_reducible refine below_drewN ?_ _) | (refine Below.trans ?_ (Below.mono ‹Below _ _ _› (by first | omega | (simp; done) | (simp; omega)))) | exact Below.refl _ _ | omega | (focus (simp; done)) | (focus (simp; omega)))) (Nat.le_refl _)) (by first | omega | (simp; done) | (simp; omega)) hf.1).mono ?_
      rintro e w6 ⟨v6, rfl, ho6, hb6⟩
      have hz6 := hb6.size
      (try (simp at hz6))
      obtain ⟨px0, px1, px2⟩ := HPX.out w6 (by repeat (first | (with_reducible exact Below.refl _ _) | (with_reducible refine below_ov ?_ ?_) | (with_reducible refine Below.setCell ?_ ?_ _) | (with_reducible refine Below.alloc ?_ ?_ _) | (with_reducible refine Below.drew ?_) | (with_reducible refine below_drewN ?_ _) | (refine Below.trans ?_ (Below.mono ‹Below _ _ _› (by first | omega | (simp; done) | (simp; omega)))) | exact Below.refl _ _ | omega | (focus (simp; done)) | (focus (simp; omega))))
      go_wp2_with fail
      refine (toPeriod_any s x y _).mono ?_
      rintro e w7 ⟨rfl, hb7⟩
      have hz7 := hb7.size
      (try (simp at hz7))
      clear px0 px1 px2
      go_wp2_with fail
      refine (HRI.out _ _ _ _ (ho6.below (B := w6.heap.size) (by repeat (first | (with_reducible exact Below.refl _ _) | (with_reducible refine below_ov ?_ ?_) | (with_reducible refine Below.setCell ?_ ?_ _) | (with_reducible refine Below.alloc ?_ ?_ _) | (with_reducible refine Below.drew ?_) | (with_reducible refine below_drewN ?_ _) | (refine Below.trans ?_ (Below.mono ‹Below _ _ _› (by first | omega | (simp; done) | (simp; omega)))) | exact Below.refl _ _ | omega | (focus (simp; done)) | (focus (simp; omega)))) (Nat.le_refl _)).sl (by first | omega | (simp; done) | (simp; omega))).mono ?_
      rintro e w8 ⟨v8, rfl, ho8, hb8⟩
      have hz8 := hb8.size
      (try (simp at hz8))
      go_wp2_with fail
      refine (eqPeriodS_any g0 g1 g2 g0 g1 g2 N N _ _ _ _ _ _ _ (ho8.below (B := w8.heap.size) (by repeat (first | (with_reducible exact Below.refl _ _) | (with_reducible refine below_ov ?_ ?_) | (with_reducible refine Below.setCell ?_ ?_ _) | (with_reducible refine Below.alloc ?_ ?_ _) | (with_reducible refine Below.drew ?_) | (with_reducible refine below_drewN ?_ _) | (refine Below.trans ?_ (Below.mono ‹Below _ _ _› (by first | omega | (simp; done) | (simp; omega)))) | exact Below.refl _ _ | omega | (focus (simp; done)) | (focus (simp; omega)))) (Nat.le_refl _)).sl (ho5.below (B := w5.heap.size) (by repeat (first | (with_reducible exact Below.refl _ _) | (with_reducible refine below_ov ?_ ?_) | (with_reducible refine Below.setCell ?_ ?_ _) | (with_reducible refine Below.alloc ?_ ?_ _) | (with_reducible refine Below.drew ?_) | (with_reducible refine below_drewN ?_ _) | (refine Below.trans ?_ (Below.mono ‹Below _ _ _› (by first | omega | (simp; done) | (simp; omega)))) | exact Below.refl _ _ | omega | (focus (simp; done)) | (focus (simp; omega)))) (Nat.le_refl _)).sl (by first | omega | (simp; done) | (simp; omega)) (by first | omega | (simp; done) | (simp; omega)) (by omega) (by omega)).mono ?_
      rintro e w9 ⟨rfl, hb9⟩
      have hz9 := hb9.size
      (try (simp at hz9))
      rw [HI.out]
      go_wp2_with fail
      refine (toPeriodS_any c a b n _ _ _ _ (hS.below (B := w.heap.size) (by repeat (first | (with_reducible exact Below.refl _ _) | (with_reducible refine below_ov ?_ ?_) | (with_reducible refine Below.setCell ?_ ?_ _) | (with_reducible refine Below.alloc ?_ ?_ _) | (with_reducible refine Below.drew ?_) | (with_reducible refine below_drewN ?_ _) | (refine Below.trans ?_ (Below.mono ‹Below _ _ _› (by first | omega | (simp; done) | (simp; omega)))) | exact Below.refl _ _ | omega | (focus (simp; done)) | (focus (simp; omega)))) (Nat.le_refl _)) (by first | omega | (simp; done) | (simp; omega)) hf.1).mono ?_
      rintro e w10 ⟨v10, rfl, ho10, hb10⟩
      have hz10 := hb10.size
      (try (simp at hz10))
      go_wp2_with fail
      refine (eqPeriodS_any c a b c a b n n _ _ _ _ _ _ _ ((ho6.below (B := w6.heap.size) (by repeat (first | (with_reducible exact Below.refl _ _) | (with_reducible refine below_ov ?_ ?_) | (with_reducible refine Below.setCell ?_ ?_ _) | (with_reducible refine Below.alloc ?_ ?_ _) | (with_reducible refine Below.drew ?_) | (with_reducible refine below_drewN ?_ _) | (refine Below.trans ?_ (Below.mono ‹Below _ _ _› (by first | omega | (simp; done) | (simp; omega)))) | exact Below.refl _ _ | omega | (focus (simp; done)) | (focus (simp; omega)))) (Nat.le_refl _)).sl) ho10.sl (by first | omega | (simp; done) | (simp; omega)) (Nat.le_refl _) (by omega) (by omega)).mono ?_
      rintro e w11 ⟨rfl, hb11⟩
      have hz11 := hb11.size
      (try (simp at hz11))
      rw [HQP.out]
      have o6_0 := hide (ho6.below (w' := w11) (B := w6.heap.size) (by repeat (first | (with_reducible exact Below.refl _ _) | (with_reducible refine below_ov ?_ ?_) | (with_reducible refine Below.setCell ?_ ?_ _) | (with_reducible refine Below.alloc ?_ ?_ _) | (with_reducible refine Below.drew ?_) | (with_reducible refine below_drewN ?_ _) | (refine Below.trans ?_ (Below.mono ‹Below _ _ _› (by first | omega | (simp; done) | (simp; omega)))) | exact Below.refl _ _ | omega | (focus (simp; done)) | (focus (simp; omega)))) (Nat.le_refl _))
      have o5_0 := hide (ho5.below (w' := w11) (B := w5.heap.size) (by repeat (first | (with_reducible exact Below.refl _ _) | (with_reducible refine below_ov ?_ ?_) | (with_reducible refine Below.setCell ?_ ?_ _) | (with_reducible refine Below.alloc ?_ ?_ _) | (with_reducible refine Below.drew ?_) | (with_reducible refine below_drewN ?_ _) | (refine Below.trans ?_ (Below.mono ‹Below _ _ _› (by first | omega | (simp; done) | (simp; omega)))) | exact Below.refl _ _ | omega | (focus (simp; done)) | (focus (simp; omega)))) (Nat.le_refl _))
      have o8_0 := hide (ho8.below (w' := w11) (B := w8.heap.size) (by repeat (first | (with_reducible exact Below.refl _ _) | (with_reducible refine below_ov ?_ ?_) | (with_reducible refine Below.setCell ?_ ?_ _) | (with_reducible refine Below.alloc ?_ ?_ _) | (with_reducible refine Below.drew ?_) | (with_reducible refine below_drewN ?_ _) | (refine Below.trans ?_ (Below.mono ‹Below _ _ _› (by first | omega | (simp; done) | (simp; omega)))) | exact Below.refl _ _ | omega | (focus (simp; done)) | (focus (simp; omega)))) (Nat.le_refl _))
      go_wp2_with fail
      refine (markPeriodS_any (1) n w5.heap.size w6.heap.size 0 _ (fun _ => .bool false) _ (o6_0.out.l _) (by omega) (by omega) (by omega) (by omega)).mono ?_
      rintro e w12 ⟨rfl, om12, hO12⟩
      have hz12 := hO12.size
      have hb12 : Below (w.heap.size + 1) w11 w12 := hO12.below (by omega) (by omega)
      have o5_1 := hide (o5_0.out.only hO12 (.inl (by omega)) (by omega))
      have o8_1 := hide (o8_0.out.only hO12 (.inr (by omega)) (by omega))
      clear om12 o6_0 o5_0 o8_0
      go_wp2_with fail
      refine (eqPeriodS_any g0 g1 g2 g0 g1 g2 N N _ _ _ _ _ _ _ o8_1.out.sl o5_1.out.sl (by omega) (by omega) (by omega) (by omega)).mono ?_
      rintro e w13 ⟨rfl, hb13⟩
      have hz13 := hb13.size
      rw [HI.out]
      have o5_2 := hide (o5_1.out.below hb13 (by omega))
      have o8_2 := hide (o8_1.out.below hb13 (by omega))
      clear o5_1 o8_1
      go_wp2_with fail
      refine (markPeriodS_any 1 N w7.heap.size w8.heap.size 0 _ (fun _ => .bool false) _ (o8_2.out.l _) (by omega) (by omega) (by omega) (by omega)).mono ?_
      rintro e w14 ⟨rfl, om, hO14⟩
      have hz14 := hO14.size
      have hb14 : Below (w.heap.size + 1) w13 w14 := hO14.below (by omega) (by omega)
      have s3 := hide (o5_2.out.only hO14 (.inl (by omega)) (by omega))
      have OM := hide om
      clear o5_2 o8_2 om
      go_wp2_with fail
      refine (heldPeriodS_same 1 N w7.heap.size w8.heap.size _ _ OM.out (by omega) (by omega) (by omega) (by omega)).mono ?_
      rintro e w15 ⟨rfl, hb15⟩
      have hz15 := hb15.size
      have hbc : Below (w.heap.size + 1) (w.alloc (.cells #[.string s, .int .i64 x, .int .i64 y] 24)) w15 := (by repeat (first | (with_reducible exact Below.refl _ _) | (with_reducible refine below_ov ?_ ?_) | (with_reducible refine Below.setCell ?_ ?_ _) | (with_reducible refine Below.alloc ?_ ?_ _) | (with_reducible refine Below.drew ?_) | (with_reducible refine below_drewN ?_ _) | (refine Below.trans ?_ (Below.mono ‹Below _ _ _› (by first | omega | (simp; done) | (simp; omega)))) | exact Below.refl _ _ | omega | (focus (simp; done)) | (focus (simp; omega))))
      have hzd : w15.drew.heap.size = w15.heap.size := rfl
      have HPC : Hid (∀ W, Below w15.heap.size w15.drew W → W.cell? ⟨w.heap.size, 0, none⟩ = some (.string s) ∧ W.cell? ⟨w.heap.size, 1, none⟩ = some (.int .i64 x) ∧ W.cell? ⟨w.heap.size, 2, none⟩ = some (.int .i64 y)) := fun W hW => HPX.out W ((Below.drew hbc).trans (hW.mono (by omega)))
      clear hbc
      go_wp2_with fail
      refine wp_region_mix [(0, true), (2, true), (1, false), (3, false), (4, false), (5, true), (6, true), (7, true), (8, true), (9, true)] (fun w' => Below w15.heap.size w15.drew w') (by kernel_rfl) (by kernel_rfl) (by kernel_rfl) (by kernel_rfl) (Below.refl _ _) ?_
      refine mix_look _ _ rfl rfl (fun w' _ => BigFrame.run_move _ rfl w') ?_
      go_simp
      refine mix_look _ (.agg #[.string s, .int .i64 x, .int .i64 y]) rfl rfl (fun w' hw' => (by obtain ⟨a0, a1, a2⟩ := HPC.out w' hw'; go_simp)) ?_
      go_simp
      refine mix_call _ 7 #[.slice A n cap] rfl rfl (by go_simp) ?_
      refine (toPeriodS_any c a b n _ _ _ _ (hS.below (B := w.heap.size) (by repeat (first | (with_reducible exact Below.refl _ _) | (with_reducible refine below_ov ?_ ?_) | (with_reducible refine Below.setCell ?_ ?_ _) | (with_reducible refine Below.alloc ?_ ?_ _) | (with_reducible refine Below.drew ?_) | (with_reducible refine below_drewN ?_ _) | (refine Below.trans ?_ (Below.mono ‹Below _ _ _› (by first | omega | (simp; done) | (simp; omega)))) | exact Below.refl _ _ | omega | (focus (simp; done)) | (focus (simp; omega)))) (Nat.le_refl _)) (by first | omega | (simp; done) | (simp; omega)) hf.1).mono ?_
      rintro e w16 ⟨v16, rfl, ho16, hb16⟩
      have hz16 := hb16.size
      (try (simp at hz16))
      refine ⟨_, rfl, (by repeat (first | (with_reducible exact Below.refl _ _) | (with_reducible refine below_ov ?_ ?_) | (with_reducible refine Below.setCell ?_ ?_ _) | (with_reducible refine Below.alloc ?_ ?_ _) | (with_reducible refine Below.drew ?_) | (with_reducible refine below_drewN ?_ _) | (refine Below.trans ?_ (Below.mono ‹Below _ _ _› (by first | omega | (simp; done) | (simp; omega)))) | exact Below.refl _ _ | omega | (focus (simp; done)) | (focus (simp; omega)))), ?_⟩
      obtain ⟨A16, c16, rfl, _, _⟩ := ho16.sl.open_
      go_simp
      refine mix_call _ 8 #[.agg #[.string s, .int .i64 x, .int .i64 y]] rfl rfl (by go_simp) ?_
      refine (toPeriod_any s x y _).mono ?_
      rintro e w17 ⟨rfl, hb17⟩
      have hz17 := hb17.size
      (try (simp at hz17))
      refine ⟨_, rfl, (by repeat (first | (with_reducible exact Below.refl _ _) | (with_reducible refine below_ov ?_ ?_) | (with_reducible refine Below.setCell ?_ ?_ _) | (with_reducible refine Below.alloc ?_ ?_ _) | (with_reducible refine Below.drew ?_) | (with_reducible refine below_drewN ?_ _) | (refine Below.trans ?_ (Below.mono ‹Below _ _ _› (by first | omega | (simp; done) | (simp; omega)))) | exact Below.refl _ _ | omega | (focus (simp; done)) | (focus (simp; omega)))), ?_⟩
      go_simp
      refine mix_call _ 9 #[.slice A16 n c16, .agg #[.string s, .int .i64 x, .int .i64 y]] rfl rfl (by go_simp) ?_
      refine (HRI.out _ _ _ _ (ho16.below (B := w16.heap.size) (by repeat (first | (with_reducible exact Below.refl _ _) | (with_reducible refine below_ov ?_ ?_) | (with_reducible refine Below.setCell ?_ ?_ _) | (with_reducible refine Below.alloc ?_ ?_ _) | (with_reducible refine Below.drew ?_) | (with_reducible refine below_drewN ?_ _) | (refine Below.trans ?_ (Below.mono ‹Below _ _ _› (by first | omega | (simp; done) | (simp; omega)))) | exact Below.refl _ _ | omega | (focus (simp; done)) | (focus (simp; omega)))) (Nat.le_refl _)).sl (by first | omega | (simp; done) | (simp; omega))).mono ?_
      rintro e w18 ⟨v18, rfl, ho18, hb18⟩
      have hz18 := hb18.size
      (try (simp at hz18))
      refine ⟨_, rfl, (by repeat (first | (with_reducible exact Below.refl _ _) | (with_reducible refine below_ov ?_ ?_) | (with_reducible refine Below.setCell ?_ ?_ _) | (with_reducible refine Below.alloc ?_ ?_ _) | (with_reducible refine Below.drew ?_) | (with_reducible refine below_drewN ?_ _) | (refine Below.trans ?_ (Below.mono ‹Below _ _ _› (by first | omega | (simp; done) | (simp; omega)))) | exact Below.refl _ _ | omega | (focus (simp; done)) | (focus (simp; omega)))), ?_⟩
      obtain ⟨A18, c18, rfl, _, _⟩ := ho18.sl.open_
      go_simp
      refine mix_look _ _ rfl rfl (fun w' _ => BigFrame.run_move _ rfl w') ?_
      go_simp
      refine mix_look _ (.slice A18 N c18) rfl rfl (fun w' _ => (by go_simp)) ?_
      go_simp
      refine mix_look _ (.bool (adOk c a b n s x y)) rfl rfl (fun w' _ => (by go_simp)) ?_
      go_simp
      refine mix_look _ _ rfl rfl (fun w' _ => BigFrame.run_assign _ rfl w') ?_
      go_simp
      refine mix_look _ _ rfl rfl (fun w' _ => BigFrame.run_assign _ rfl w') ?_
      go_simp
      refine wpMix_nil ?_
      clear HPC
      go_wp2_with fail
      refine (eqPeriodS_any g0 g1 g2 g0 g1 g2 N N _ _ _ _ _ _ _ (ho18.below (B := w18.heap.size) (by repeat (first | (with_reducible exact Below.refl _ _) | (with_reducible refine below_ov ?_ ?_) | (with_reducible refine Below.setCell ?_ ?_ _) | (with_reducible refine Below.alloc ?_ ?_ _) | (with_reducible refine Below.drew ?_) | (with_reducible refine below_drewN ?_ _) | (refine Below.trans ?_ (Below.mono ‹Below _ _ _› (by first | omega | (simp; done) | (simp; omega)))) | exact Below.refl _ _ | omega | (focus (simp; done)) | (focus (simp; omega)))) (Nat.le_refl _)).sl (s3.out.below (B := w5.heap.size) (by repeat (first | (with_reducible exact Below.refl _ _) | (with_reducible refine below_ov ?_ ?_) | (with_reducible refine Below.setCell ?_ ?_ _) | (with_reducible refine Below.alloc ?_ ?_ _) | (with_reducible refine Below.drew ?_) | (with_reducible refine below_drewN ?_ _) | (refine Below.trans ?_ (Below.mono ‹Below _ _ _› (by first | omega | (simp; done) | (simp; omega)))) | exact Below.refl _ _ | omega | (focus (simp; done)) | (focus (simp; omega)))) (Nat.le_refl _)).sl (by first | omega | (simp; done) | (simp; omega)) (by first | omega | (simp; done) | (simp; omega)) (by omega) (by omega)).mono ?_
      rintro e w19 ⟨rfl, hb19⟩
      have hz19 := hb19.size
      (try (simp at hz19))
      rw [HI.out]
      go_wp2_with fail
      refine (heldPeriodS_same 1 N w7.heap.size w8.heap.size _ _ (OM.out.below (B := w8.heap.size) (by repeat (first | (with_reducible exact Below.refl _ _) | (with_reducible refine below_ov ?_ ?_) | (with_reducible refine Below.setCell ?_ ?_ _) | (with_reducible refine Below.alloc ?_ ?_ _) | (with_reducible refine Below.drew ?_) | (with_reducible refine below_drewN ?_ _) | (refine Below.trans ?_ (Below.mono ‹Below _ _ _› (by first | omega | (simp; done) | (simp; omega)))) | exact Below.refl _ _ | omega | (focus (simp; done)) | (focus (simp; omega)))) (Nat.le_refl _)) (by omega) (by omega) (by omega) (by omega)).mono ?_
      rintro e w20 ⟨rfl, hb20⟩
      have hz20 := hb20.size
      go_wp2_with fail
      go_ret
      exact ⟨rfl, (by repeat (first | (with_reducible exact Below.refl _ _) | (with_reducible refine below_ov ?_ ?_) | (with_reducible refine Below.setCell ?_ ?_ _) | (with_reducible refine Below.alloc ?_ ?_ _) | (with_reducible refine Below.drew ?_) | (with_reducible refine below_drewN ?_ _) | (refine Below.trans ?_ (Below.mono ‹Below _ _ _› (by first | omega | (simp; done) | (simp; omega)))) | exact Below.refl _ _ | omega | (focus (simp; done)) | (focus (simp; omega))))⟩

set_option maxRecDepth 100000 in
theorem FnExactAddPeriod_lifted (os : Os) (started : os.Started) (H : Type) (enc : TypeId × Value → H) :
    ReturnsInHanded {} Try.checked os 3 .any (Rows.fnExactAddPeriodSpec.pre6 enc Try.prog Try.f3 Rows.fnExactAddPeriodRow.domain false) (Rows.fnExactAddPeriodSpec.post enc Try.prog Try.f3 false true false false) := by
  refine returnsInHanded_of_change_sized (C := Try.checked) Try.own started (by kernel_rfl) Try.func3
    (ChangeSpec.witness6 (enc := enc) (C := Try.checked) false ⟨#[], #[.slice none 0 0, .agg #[.string ⟨#[]⟩, .int .i64 0, .int .i64 0]], []⟩ 8 (by kernel_rfl) (by kernel_rfl) (by kernel_rfl) (by kernel_rfl)) ?_
  intro W base args ds gs before hval0 hW _ hsz _
  have hval : ∀ (j : Nat) t v, Try.f3.params[j]? = some t → args[j]? = some v → Value.okWide Try.prog W .any base t v := hval0
  have hW' := hW
  obtain ⟨p, q, hA0, hV, rfl, hfz, hnd⟩ := hW
  have hA : DataW.TrodAll enc Try.prog W 0 (fun _ => true) true Try.f3.params.toList args.toList ds p := hA0
  rw [Try.params3] at hA hval
  obtain ⟨v0, vs0, d0, ds0, p0, q0, hargs, rfl, rfl, h0, r0⟩ := trodAll_cons hA
  obtain ⟨v1, vs1, d1, ds1, p1, q1, rfl, rfl, rfl, h1, r1⟩ := trodAll_cons r0
  obtain ⟨rfl, rfl, rfl⟩ := trodAll_nil r1
  obtain rfl : args = #[v0, v1] := by cases args; simp_all
  obtain ⟨rfl, rfl⟩ := trodVars_none hV
  have hend : ∀ W', Below W.heap.size W W' → Rows.fnExactAddPeriodSpec.post enc Try.prog Try.f3 false true false false W #[v0, v1] (.bool true) W' := fun W' hb =>
    law_post (T := 4) Try.laidOut rfl (by kernel_rfl) rfl Try.underlying4 hW' rfl hb
  clear hW' hA0 hval0
  obtain ⟨A, n, cap, c, a, b, rfl, hk0, hm0, hA0⟩ := openPeriod (hval 0 _ v0 rfl rfl) h0
  obtain ⟨c1_0, c1_1, c1_2, y1_0, y1_1, y1_2, m1, rfl, rfl, rfl, hy1_0, hy1_1, hy1_2⟩ := open_agg3 Try.underlying24 (by kernel_rfl) Try.cells24 (hval 1 _ v1 rfl rfl) h1
  obtain ⟨s, e1_0, rfl, wf1_0⟩ := DataW.trod_string Try.underlying9 hy1_0
  obtain ⟨x, e1_1, rfl, wf1_1⟩ := DataW.trod_int Try.underlying3 hy1_1
  obtain ⟨y, e1_2, rfl, wf1_2⟩ := DataW.trod_int Try.underlying3 hy1_2
  simp at e1_0 e1_1 e1_2
  subst e1_0 e1_1 e1_2
  refine (FnExactAddPeriod_walk A n cap c a b s x y W hk0 hm0 hA0.1 hA0.2 wf1_0).mono fun e W' ⟨he, hb⟩ => ?_
  subst he
  exact ⟨_, rfl, hend W' hb⟩
/-- The statement. -/
theorem FnExactAddPeriod_holds : Rows.FnExactAddPeriodSaid :=
  OpenClaim.holds_of_wide 3 Try.f3 rfl rfl rfl rfl rfl rfl rfl ⟨rfl, rfl, rfl, rfl, rfl⟩ rfl rfl rfl rfl rfl (by kernel_rfl) Try.func3 (show joinedFacts Try.prog 3 Try.f3 Rows.fnExactAddPeriodSpec Rows.fnExactAddPeriodRow = true from by unfold joinedFacts; rw [Try.heard, Try.enters, Try.lifts, Try.laidOut, Try.rowed, Try.made]; kernel_rfl)
    (of_decide_eq_true (by kernel_rfl)) (by unfold Func.isWrapper; first | (rw [if_pos (by decide +kernel)]; kernel_rfl) | (rw [if_neg (by decide +kernel)]; exact ⟨rfl, rfl⟩))
    (fun os started H enc _ => FnExactAddPeriod_lifted os started H enc)
#print axioms FnExactAddPeriod_holds

end Go.Proofs.Ytmonfljjdngfeaa
