/-
  Walks: a team enters: the program.
-/
import Derived.Test.YtpakjmiallhgnaaWEnter
namespace Go.Proofs.Ytpakjmiallhgnaa
set_option linter.unusedVariables false
set_option linter.unusedSimpArgs false
open Go.RowKit

theorem insC_one {c : Nat → Nat → Value} {n : Nat} (hc : ∀ i j, i < n → j < 4 → (c i j).oneCell' = true) : True := trivial
theorem xC_one {X : Tm} {A : Option Addr} {n c : Nat} : ∀ j, j < 4 → (xC X (.slice A n c) j).oneCell' = true := fun j hj => by
  match j, hj with
  | 0, _ => rfl
  | 1, _ => rfl
  | 2, _ => rfl
  | 3, _ => rfl
theorem tC_one {T : Nat → Tm} {ck : Nat → Value} {n : Nat} (hc : ∀ i, i < n → (ck i).oneCell' = true) : ∀ i j, i < n → j < 4 → (tC T ck i j).oneCell' = true := fun i j hi hj => by
  match j, hj with
  | 0, _ => rfl
  | 1, _ => rfl
  | 2, _ => rfl
  | 3, _ => exact hc i hi
/-- The board behind the insertion. -/
theorem OwnX.entered {W w' : World} {base g' k n b' : Nat} {X : Tm} {u v' : Value} {β : Nat → Nat} {ck : Nat → Value} {T : Nat → Tm} (hs : Subs W base β ck T n) (hk : k ≤ n) (hp : ∀ i, i < n → 0 < (T i).n) (hpX : 0 < X.n)
    (ho : OwnL w' g' (g' + 1) 40 4 v' (n + 1) ((n + 1) * 4) (fun o => insC k (tC T ck) (xC X u) (o / 4) (o % 4)))
    (hu : OwnL w' b' (b' + 1) 47 2 u X.n (X.n * 2) (fun o => iiC X.m X.b (o / 2) (o % 2)))
    (hb : ∀ i, i < n → β i ≠ b') (hkeep : ∀ i, i < n → w'.heap[β i]? = W.heap[β i]?) :
    OwnX w' g' (fun i => if i < k then β i else if i = k then b' else β (i - 1)) (fun i => if i < k then ck i else if i = k then u else ck (i - 1)) v' (n + 1) (insT T k X) := by
  have hsub : ∀ i, i < n + 1 → OwnL w' (if i < k then β i else if i = k then b' else β (i - 1)) ((if i < k then β i else if i = k then b' else β (i - 1)) + 1) 47 2 (if i < k then ck i else if i = k then u else ck (i - 1)) (insT T k X i).n ((insT T k X i).n * 2) (fun o => iiC (insT T k X i).m (insT T k X i).b (o / 2) (o % 2)) := fun i hi => by
    unfold insT
    rcases Nat.lt_trichotomy i k with h | h | h
    · simp only [h, if_true]
      exact (hs.1 i (by omega)).1.keep1 (hkeep i (by omega))
    · subst h
      simp only [Nat.lt_irrefl, if_true, if_false]
      exact hu
    · have h1 : ¬ i < k := by omega
      have h2 : ¬ i = k := by omega
      simp only [h1, h2, if_false]
      exact (hs.1 (i - 1) (by omega)).1.keep1 (hkeep _ (by omega))
  have hpos : ∀ i, i < n + 1 → 0 < (insT T k X i).n := fun i hi => by
    unfold insT
    split
    · exact hp i (by omega)
    · split
      · exact hpX
      · exact hp _ (by omega)
  have hown : OwnL w' g' (g' + 1) 40 4 v' (n + 1) ((n + 1) * 4) (fun o => tC (insT T k X) (fun i => if i < k then ck i else if i = k then u else ck (i - 1)) (o / 4) (o % 4)) := ho.congr fun o _ => ins_tC T ck k X u _ _
  refine ⟨hown, hsub, fun i hi => OwnL.apart (hsub i hi) hown (hpos i hi) (by omega) (by decide), fun i j hi hj hij => ?_⟩
  show (if i < k then β i else if i = k then b' else β (i - 1)) ≠ (if j < k then β j else if j = k then b' else β (j - 1))
  rcases Nat.lt_trichotomy i k with h | h | h <;> rcases Nat.lt_trichotomy j k with h' | h' | h'
  · rw [if_pos h, if_pos h']; exact hs.2 i j (by omega) (by omega) hij
  · rw [if_pos h, if_neg (by omega), if_pos h']; exact hb i (by omega)
  · rw [if_pos h, if_neg (by omega), if_neg (by omega)]; exact hs.2 _ _ (by omega) (by omega) (by omega)
  · rw [if_neg (by omega), if_pos h, if_pos h']; exact (hb j (by omega)).symm
  · omega
  · rw [if_neg (by omega), if_pos h, if_neg (by omega), if_neg (by omega)]; exact (hb _ (by omega)).symm
  · rw [if_neg (by omega), if_neg (by omega), if_pos h']; exact hs.2 _ _ (by omega) (by omega) (by omega)
  · rw [if_neg (by omega), if_neg (by omega), if_neg (by omega), if_pos h']; exact hb _ (by omega)
  · rw [if_neg (by omega), if_neg (by omega), if_neg (by omega), if_neg (by omega)]; exact hs.2 _ _ (by omega) (by omega) (by omega)
set_option maxRecDepth 100000 in
set_option maxHeartbeats 3200000 in
theorem EnterTeam_impl (T : Nat → Tm) (n : Nat) (X : Tm) (lo hi lo' hi' : Nat) (v vx : Value) (w : World) (hv : SlT w lo hi v n T) (hhi : hi ≤ w.heap.size) (hf : tfits T n) (hx : Sl w lo' hi' 2 vx X.n (iiC X.m X.b)) (hhi' : hi' ≤ w.heap.size) (hfx : X.fits) :
    Calls Try.prog 46 #[v, .agg #[.string X.s, .int .i64 X.v, .int .i64 X.y, vx]] w (BrdRes (etT T n X) (etN T n X) (etOk T n X) w) := by
  obtain ⟨A, cap, rfl, hcap⟩ := hv.open_
  obtain ⟨B, capx, rfl, hcapx, hBx⟩ := hx.open_
  have hn : n ≤ 1048576 := hf.1
  cases hB : bdB T n with
  | false =>
    have HF : Hid (etOk T n X = false) := by show _ = _; simp [etOk, hB]
    have HN : Hid (etN T n X = 0) := by show _ = _; rw [etN, HF.out]; rfl
    go_enter Try.func46, Try.ntmps46
    go_wp2_with fail
    refine (isBoard_any T n lo hi _ _ (hv.below (B := w.heap.size) (by repeat (first | (with_reducible exact Below.refl _ _) | (with_reducible refine below_ov ?_ ?_) | (with_reducible refine Below.setCell ?_ ?_ _) | (with_reducible refine Below.alloc ?_ ?_ _) | (with_reducible refine Below.drew ?_) | (with_reducible refine below_drewN ?_ _) | (refine Below.trans ?_ (Below.mono ‹Below _ _ _› (by first | omega | (simp; done) | (simp; omega)))) | exact Below.refl _ _ | omega | (focus (simp; done)) | (focus (simp; omega)))) hhi) (by first | omega | (simp; done) | (simp; omega)) hf).mono ?_
    rintro e w2 ⟨rfl, hb2⟩
    have hz2 := hb2.size
    (try (simp at hz2))
    rw [hB]
    go_wp2_with fail
    go_ret2
    rw [HF.out]
    exact brd_nil HN.out (by repeat (first | (with_reducible exact Below.refl _ _) | (with_reducible refine below_ov ?_ ?_) | (with_reducible refine Below.setCell ?_ ?_ _) | (with_reducible refine Below.alloc ?_ ?_ _) | (with_reducible refine Below.drew ?_) | (with_reducible refine below_drewN ?_ _) | (refine Below.trans ?_ (Below.mono ‹Below _ _ _› (by first | omega | (simp; done) | (simp; omega)))) | exact Below.refl _ _ | omega | (focus (simp; done)) | (focus (simp; omega))))
  | true =>
    have HB := hide hB
    have hn6 := (bd_facts HB.out).1
    cases hC : tmB X with
    | false =>
      have HF : Hid (etOk T n X = false) := by show _ = _; simp [etOk, hC]
      have HN : Hid (etN T n X = 0) := by show _ = _; rw [etN, HF.out]; rfl
      go_enter Try.func46, Try.ntmps46
      go_wp2_with fail
      refine (isBoard_any T n lo hi _ _ (hv.below (B := w.heap.size) (by repeat (first | (with_reducible exact Below.refl _ _) | (with_reducible refine below_ov ?_ ?_) | (with_reducible refine Below.setCell ?_ ?_ _) | (with_reducible refine Below.alloc ?_ ?_ _) | (with_reducible refine Below.drew ?_) | (with_reducible refine below_drewN ?_ _) | (refine Below.trans ?_ (Below.mono ‹Below _ _ _› (by first | omega | (simp; done) | (simp; omega)))) | exact Below.refl _ _ | omega | (focus (simp; done)) | (focus (simp; omega)))) hhi) (by first | omega | (simp; done) | (simp; omega)) hf).mono ?_
      rintro e w2 ⟨rfl, hb2⟩
      have hz2 := hb2.size
      (try (simp at hz2))
      rw [hB]
      go_wp2_with fail
      refine (isTeam_any X w.heap.size 0 lo' hi' _ _ ((TmAt.new X lo' hi' _ w _ hx hhi').below hb2 (Nat.le_refl _)) hfx).mono ?_
      rintro e w3 ⟨rfl, hb3⟩
      have hz3 := hb3.size
      rw [hC]
      go_wp2_with fail
      go_ret2
      rw [HF.out]
      exact brd_nil HN.out (by repeat (first | (with_reducible exact Below.refl _ _) | (with_reducible refine below_ov ?_ ?_) | (with_reducible refine Below.setCell ?_ ?_ _) | (with_reducible refine Below.alloc ?_ ?_ _) | (with_reducible refine Below.drew ?_) | (with_reducible refine below_drewN ?_ _) | (refine Below.trans ?_ (Below.mono ‹Below _ _ _› (by first | omega | (simp; done) | (simp; omega)))) | exact Below.refl _ _ | omega | (focus (simp; done)) | (focus (simp; omega))))
    | true =>
      by_cases h6 : n = 6
      · subst h6
        have HF : Hid (etOk T 6 X = false) := by show _ = _; simp [etOk]
        have HN : Hid (etN T 6 X = 0) := by show _ = _; rw [etN, HF.out]; rfl
        go_enter Try.func46, Try.ntmps46
        go_wp2_with fail
        refine (isBoard_any T 6 lo hi _ _ (hv.below (B := w.heap.size) (by repeat (first | (with_reducible exact Below.refl _ _) | (with_reducible refine below_ov ?_ ?_) | (with_reducible refine Below.setCell ?_ ?_ _) | (with_reducible refine Below.alloc ?_ ?_ _) | (with_reducible refine Below.drew ?_) | (with_reducible refine below_drewN ?_ _) | (refine Below.trans ?_ (Below.mono ‹Below _ _ _› (by first | omega | (simp; done) | (simp; omega)))) | exact Below.refl _ _ | omega | (focus (simp; done)) | (focus (simp; omega)))) hhi) (by first | omega | (simp; done) | (simp; omega)) hf).mono ?_
        rintro e w2 ⟨rfl, hb2⟩
        have hz2 := hb2.size
        (try (simp at hz2))
        rw [hB]
        go_wp2_with fail
        refine (isTeam_any X w.heap.size 0 lo' hi' _ _ ((TmAt.new X lo' hi' _ w _ hx hhi').below hb2 (Nat.le_refl _)) hfx).mono ?_
        rintro e w3 ⟨rfl, hb3⟩
        have hz3 := hb3.size
        rw [hC]
        go_wp2_with fail
        go_ret2
        rw [HF.out]
        exact brd_nil HN.out (by repeat (first | (with_reducible exact Below.refl _ _) | (with_reducible refine below_ov ?_ ?_) | (with_reducible refine Below.setCell ?_ ?_ _) | (with_reducible refine Below.alloc ?_ ?_ _) | (with_reducible refine Below.drew ?_) | (with_reducible refine below_drewN ?_ _) | (refine Below.trans ?_ (Below.mono ‹Below _ _ _› (by first | omega | (simp; done) | (simp; omega)))) | exact Below.refl _ _ | omega | (focus (simp; done)) | (focus (simp; omega))))
      · have d6 : ((n : Int) == 6) = false := by simp; omega
        cases hD : fdB T n X.s with
        | true =>
          have HF : Hid (etOk T n X = false) := by show _ = _; simp [etOk, hD]
          have HN : Hid (etN T n X = 0) := by show _ = _; rw [etN, HF.out]; rfl
          clear h6
          go_enter Try.func46, Try.ntmps46
          go_wp2_with fail
          refine (isBoard_any T n lo hi _ _ (hv.below (B := w.heap.size) (by repeat (first | (with_reducible exact Below.refl _ _) | (with_reducible refine below_ov ?_ ?_) | (with_reducible refine Below.setCell ?_ ?_ _) | (with_reducible refine Below.alloc ?_ ?_ _) | (with_reducible refine Below.drew ?_) | (with_reducible refine below_drewN ?_ _) | (refine Below.trans ?_ (Below.mono ‹Below _ _ _› (by first | omega | (simp; done) | (simp; omega)))) | exact Below.refl _ _ | omega | (focus (simp; done)) | (focus (simp; omega)))) hhi) (by first | omega | (simp; done) | (simp; omega)) hf).mono ?_
          rintro e w2 ⟨rfl, hb2⟩
          have hz2 := hb2.size
          (try (simp at hz2))
          rw [hB]
          go_wp2_with fail
          refine (isTeam_any X w.heap.size 0 lo' hi' _ _ ((TmAt.new X lo' hi' _ w _ hx hhi').below hb2 (Nat.le_refl _)) hfx).mono ?_
          rintro e w3 ⟨rfl, hb3⟩
          have hz3 := hb3.size
          rw [hC]
          have hb23 := hb2.trans (hb3.mono (by simpa using hz2))
          have x0 : w3.cell? ⟨w.heap.size, 0, none⟩ = some (.string X.s) := (hb23.cell (p := ⟨w.heap.size, 0, none⟩) (by simp)).trans (World.cell?_alloc_new _ _ _ _)
          have x1 : w3.cell? ⟨w.heap.size, 1, none⟩ = some (.int .i64 X.v) := (hb23.cell (p := ⟨w.heap.size, 1, none⟩) (by simp)).trans (World.cell?_alloc_new _ _ _ _)
          have x2 : w3.cell? ⟨w.heap.size, 2, none⟩ = some (.int .i64 X.y) := (hb23.cell (p := ⟨w.heap.size, 2, none⟩) (by simp)).trans (World.cell?_alloc_new _ _ _ _)
          have x3 : w3.cell? ⟨w.heap.size, 3, none⟩ = some (.slice B X.n capx) := (hb23.cell (p := ⟨w.heap.size, 3, none⟩) (by simp)).trans (World.cell?_alloc_new _ _ _ _)
          have hb03 : Below w.heap.size w w3 := ((Below.refl _ _).alloc (Nat.le_refl _) _).trans (hb23.mono (by simp))
          have HB23 := hide hb23
          clear hb23
          go_wp2_with fail
          refine (BinT_any T n X _ lo hi _ _ (hv.below (B := w.heap.size) hb03 hhi) (by first | omega | (simp; done) | (simp; omega)) HB.out ⟨_, _, _, rfl⟩).mono ?_
          rintro e w4 ⟨rfl, hb4⟩
          have hz4 := hb4.size
          rw [hD]
          go_wp2_with fail
          go_ret2
          rw [HF.out]
          exact brd_nil HN.out (by repeat (first | (with_reducible exact Below.refl _ _) | (with_reducible refine below_ov ?_ ?_) | (with_reducible refine Below.setCell ?_ ?_ _) | (with_reducible refine Below.alloc ?_ ?_ _) | (with_reducible refine Below.drew ?_) | (with_reducible refine below_drewN ?_ _) | (refine Below.trans ?_ (Below.mono ‹Below _ _ _› (by first | omega | (simp; done) | (simp; omega)))) | exact Below.refl _ _ | omega | (focus (simp; done)) | (focus (simp; omega))))
        | false =>
          have HE : Hid (etOk T n X = true) := by show _ = _; simp [etOk, hD, hC, HB.out, h6]
          have HN : Hid (etN T n X = n + 1) := by show _ = _; rw [etN, if_pos HE.out]
          obtain ⟨k, hk⟩ : ∃ k, k = fdK T n X.s := ⟨_, rfl⟩
          have HK := hide hk
          have HT : Hid (etT T n X = insT T k X) := by show _ = _; rw [etT, ← hk]
          have hkn : k ≤ n := by rw [hk]; exact fdK_le _ _ _
          have hn5 : n ≤ 5 := by omega
          have hpX : 0 < X.n := by have := (tm_facts hC).2.2.2.1; omega
          clear h6 hk
          go_enter Try.func46, Try.ntmps46
          go_wp2_with fail
          refine (isBoard_any T n lo hi _ _ (hv.below (B := w.heap.size) (by repeat (first | (with_reducible exact Below.refl _ _) | (with_reducible refine below_ov ?_ ?_) | (with_reducible refine Below.setCell ?_ ?_ _) | (with_reducible refine Below.alloc ?_ ?_ _) | (with_reducible refine Below.drew ?_) | (with_reducible refine below_drewN ?_ _) | (refine Below.trans ?_ (Below.mono ‹Below _ _ _› (by first | omega | (simp; done) | (simp; omega)))) | exact Below.refl _ _ | omega | (focus (simp; done)) | (focus (simp; omega)))) hhi) (by first | omega | (simp; done) | (simp; omega)) hf).mono ?_
          rintro e w2 ⟨rfl, hb2⟩
          have hz2 := hb2.size
          (try (simp at hz2))
          rw [hB]
          go_wp2_with fail
          refine (isTeam_any X w.heap.size 0 lo' hi' _ _ ((TmAt.new X lo' hi' _ w _ hx hhi').below hb2 (Nat.le_refl _)) hfx).mono ?_
          rintro e w3 ⟨rfl, hb3⟩
          have hz3 := hb3.size
          rw [hC]
          have hb23 := hb2.trans (hb3.mono (by simpa using hz2))
          have x0 : w3.cell? ⟨w.heap.size, 0, none⟩ = some (.string X.s) := (hb23.cell (p := ⟨w.heap.size, 0, none⟩) (by simp)).trans (World.cell?_alloc_new _ _ _ _)
          have x1 : w3.cell? ⟨w.heap.size, 1, none⟩ = some (.int .i64 X.v) := (hb23.cell (p := ⟨w.heap.size, 1, none⟩) (by simp)).trans (World.cell?_alloc_new _ _ _ _)
          have x2 : w3.cell? ⟨w.heap.size, 2, none⟩ = some (.int .i64 X.y) := (hb23.cell (p := ⟨w.heap.size, 2, none⟩) (by simp)).trans (World.cell?_alloc_new _ _ _ _)
          have x3 : w3.cell? ⟨w.heap.size, 3, none⟩ = some (.slice B X.n capx) := (hb23.cell (p := ⟨w.heap.size, 3, none⟩) (by simp)).trans (World.cell?_alloc_new _ _ _ _)
          have hb03 : Below w.heap.size w w3 := ((Below.refl _ _).alloc (Nat.le_refl _) _).trans (hb23.mono (by simp))
          have HB23 := hide hb23
          clear hb23
          go_wp2_with fail
          refine (BinT_any T n X _ lo hi _ _ (hv.below (B := w.heap.size) hb03 hhi) (by first | omega | (simp; done) | (simp; omega)) HB.out ⟨_, _, _, rfl⟩).mono ?_
          rintro e w4 ⟨rfl, hb4⟩
          have hz4 := hb4.size
          rw [hD, ← HK.out]
          have hb04 : Below w.heap.size w w4 := hb03.trans (hb4.mono (by omega))
          have hzd : w4.drew.heap.size = w4.heap.size := rfl
          have HX : Hid (∀ w', Below w4.heap.size w4.drew w' → w'.cell? ⟨w.heap.size, 0, none⟩ = some (.string X.s) ∧ w'.cell? ⟨w.heap.size, 1, none⟩ = some (.int .i64 X.v) ∧ w'.cell? ⟨w.heap.size, 2, none⟩ = some (.int .i64 X.y) ∧ w'.cell? ⟨w.heap.size, 3, none⟩ = some (.slice B X.n capx)) := fun w' hw' => by
            have key : ∀ j v, w3.cell? ⟨w.heap.size, j, none⟩ = some v → w'.cell? ⟨w.heap.size, j, none⟩ = some v := fun j v hj =>
              (hw'.cell (p := ⟨w.heap.size, j, none⟩) (by show w.heap.size < _; omega)).trans ((hb4.cell (p := ⟨w.heap.size, j, none⟩) (by show w.heap.size < _; omega)).trans hj)
            exact ⟨key _ _ x0, key _ _ x1, key _ _ x2, key _ _ x3⟩
          clear x0 x1 x2 x3
          go_wp2_with fail
          refine wp_region_mix [(0, true), (2, true), (3, true), (1, false), (4, false), (5, false), (6, false), (7, true), (8, true)] (fun w' => Below w4.heap.size w4.drew w') (by kernel_rfl) (by kernel_rfl) (by kernel_rfl) (by kernel_rfl) (Below.refl _ _) ?_
          refine mix_look _ _ rfl rfl (fun w' _ => BigFrame.run_move _ rfl w') ?_
          go_simp
          refine mix_look _ _ rfl rfl (fun w' _ => BigFrame.run_move _ rfl w') ?_
          go_simp
          refine mix_look _ (.agg #[.string X.s, .int .i64 X.v, .int .i64 X.y, .slice B X.n capx]) rfl rfl (fun w' hw' => (by obtain ⟨a0, a1, a2, a3⟩ := HX.out w' hw'; go_simp)) ?_
          go_simp
          refine mix_call _ 65 #[.slice A n cap] rfl rfl (by go_simp) ?_
          refine (copyBoard_raw T n lo hi _ _ (hv.below (B := w.heap.size) (Below.drew hb04) hhi) (by simp; omega) hf (bd_pos HB.out)).mono ?_
          rintro e w5 ⟨v5, β, ck, rfl, hr5, hs5, hb5⟩
          have hz5 := hb5.size
          (try (simp at hz5))
          refine ⟨_, rfl, hb5, ?_⟩
          obtain ⟨A5, c5, rfl⟩ := row_form hr5
          go_simp
          refine mix_call _ 108 #[.agg #[.string X.s, .int .i64 X.v, .int .i64 X.y, .slice B X.n capx]] rfl rfl (by go_simp) ?_
          have hb05 : Below w.heap.size w w5 := (Below.drew hb04).trans (hb5.mono (by simp; omega))
          refine (copyTeam_any X lo' hi' _ _ (hx.below (B := w.heap.size) hb05 hhi') (by omega) hpX hfx).mono ?_
          rintro e w6 ⟨u, rfl, hou, hgr6, hb6⟩
          have hz6 := hb6.size
          refine ⟨_, rfl, hb5.trans (hb6.mono hz5), ?_⟩
          obtain ⟨Au, cu, rfl, hcu, _⟩ := hou.sl.open_
          go_simp
          refine mix_value _ (.slice (some ⟨w6.heap.size, 0, none⟩) 1 1) (w6.alloc (.cells #[.string X.s, .int .i64 X.v, .int .i64 X.y, .slice Au X.n cu] 40)) rfl rfl (by go_simp) ((hb5.trans (hb6.mono hz5)).alloc (by omega) _) ?_
          go_simp
          refine mix_call _ 107 #[.slice A5 n c5, .int .i64 k, .slice (some ⟨w6.heap.size, 0, none⟩) 1 1] rfl rfl (by go_simp) ?_
          have hr6 := (row_below hr5 hb6 (Nat.le_refl _)).alloc (.cells #[.string X.s, .int .i64 X.v, .int .i64 X.y, .slice Au X.n cu] 40)
          have hs6 : Subs (w6.alloc (.cells #[.string X.s, .int .i64 X.v, .int .i64 X.y, .slice Au X.n cu] 40)) _ β ck T n := hs5.below (hb6.alloc hz6 _) (Nat.le_refl _)
          refine (InsertTeam_any (tC T ck) (xC X (.slice Au X.n cu)) k n w6.heap.size _ _ _ hr6 hn5 hkn (by simp; omega) (heap_alloc_new w6 _) (fun g hg => by have := (hr6.lt g hg).2; have := (row_below hr5 hb6 (Nat.le_refl _)).lt g hg; omega) (tC_one hs5.one) xC_one).mono ?_
          rintro e w7 ⟨v7, g7, rfl, ho7, hg7, hg7', hk7, hb7⟩
          refine ⟨_, rfl, ((hb5.trans (hb6.mono hz5)).alloc (by omega) _).trans (hb7.mono (by simp)), ?_⟩
          obtain ⟨A7, c7, rfl, _, _⟩ := ho7.open_
          go_simp
          refine mix_look _ _ rfl rfl (fun w' _ => BigFrame.run_assign _ rfl w') ?_
          go_simp
          refine mix_look _ _ rfl rfl (fun w' _ => BigFrame.run_assign _ rfl w') ?_
          go_simp
          have hX : OwnT w7 w.heap.size w7.heap.size (.slice A7 (n + 1) c7) (n + 1) (insT T k X) := by
            obtain ⟨b', b1, b2, b3⟩ := (hou.lf (by omega)).pin hgr6
            have hz7 := hb7.size
            simp at hz7
            have hb' : w7.heap[b']? = w6.heap[b']? := (hk7 b' (by simp; omega) (fun e => by have := (hr5.lt b' e).2; omega)).trans (Deep.blk_alloc_lt _ _ _ b2)
            have hxx := OwnX.entered (w' := w7) hs6 hkn (bd_pos HB.out) hpX ho7 (b3.keep1 hb') (fun i hi => by have := (hs5.1 i hi).2.2; omega) (fun i hi => hk7 _ (by have := (hs5.1 i hi).2.2; simp; omega) (fun e => Subs.apart hs6 (bd_pos HB.out) hr6 e i hi rfl))
            refine ⟨g7, _, _, hxx, fun _ => by omega, fun i hi => ?_⟩
            show w.heap.size ≤ (if i < k then β i else if i = k then b' else β (i - 1)) ∧ (if i < k then β i else if i = k then b' else β (i - 1)) < w7.heap.size
            split
            · have := (hs5.1 i (by omega)).2; omega
            · split
              · omega
              · have := (hs5.1 (i - 1) (by omega)).2; omega
          have hbw : Below w.heap.size w w7 := by
            have h6 : Below w.heap.size w w6 := hb05.trans (hb6.mono (by omega))
            exact (h6.alloc (by omega) _).trans (hb7.mono (by omega))
          have HOT := hide hX
          clear hX hs5 hs6 hr5 hr6 hou ho7 hk7
          refine wpMix_nil ?_
          go_wp2_with fail
          go_ret2
          rw [HE.out, HN.out, HT.out]
          exact ⟨_, rfl, HOT.out, hbw⟩

end Go.Proofs.Ytpakjmiallhgnaa
