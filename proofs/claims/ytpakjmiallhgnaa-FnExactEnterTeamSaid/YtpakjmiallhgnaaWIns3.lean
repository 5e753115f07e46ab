/-
  Walks: slices.Insert of one team: there is no room.
-/
import Derived.Test.YtpakjmiallhgnaaWIns2
namespace Go.Proofs.Ytpakjmiallhgnaa
set_option linter.unusedVariables false
set_option linter.unusedSimpArgs false
open Go.RowKit

theorem OwnL.shifted2 {w W1 W2 : World} {γ E k d cap : Nat} {cc : Nat → Value} {c : Nat → Nat → Value} {x : Nat → Value} (h : OwnL w γ (γ + 1) E 4 (.slice (some ⟨γ, 0, none⟩) (k + d + 2) cap) (k + d + 2) ((k + d + 2) * 4) cc)
    (hcc : ∀ o, o < k * 4 → cc o = c (o / 4) (o % 4)) (s : List Value) (hs : s.length = (d + 1) * 4) (hsc : ∀ i j, i < d + 1 → j < 4 → s[i * 4 + j]? = some (c (k + i) j))
    (hW1 : W1 = (w.setCells γ (k * 4) [x 0, x 1, x 2, x 3]).drew) (hW2 : W2 = W1.setCells γ ((k + 1) * 4) s) :
    OwnL W2 γ (γ + 1) E 4 (.slice (some ⟨γ, 0, none⟩) (k + d + 2) cap) (k + d + 2) ((k + d + 2) * 4) (fun o => insC k c x (o / 4) (o % 4)) := by
  have a0 := h.setCells (vs := [x 0, x 1, x 2, x 3]) (o := k * 4) (by simp; omega)
  have a1 : OwnL W1 γ (γ + 1) E 4 _ _ _ _ := a0.keep1 (w' := W1) (by rw [hW1]; rfl)
  have a2 := a1.setCells (vs := s) (o := (k + 1) * 4) (by omega)
  rw [← hW2] at a2
  refine a2.congr fun o ho => ?_
  obtain ⟨i, j, hj, rfl⟩ : ∃ i j, j < 4 ∧ o = i * 4 + j := ⟨o / 4, o % 4, by omega, by omega⟩
  have e1 : (i * 4 + j) / 4 = i := by omega
  have e2 : (i * 4 + j) % 4 = j := by omega
  simp only [List.length_cons, List.length_nil]
  rw [e1, e2]
  unfold insC
  rcases Nat.lt_trichotomy i k with hik | hik | hik
  · rw [if_neg (by omega), if_neg (by omega), if_pos hik, hcc _ (by omega), e1, e2]
  · subst hik
    rw [if_neg (by omega), if_pos (by omega), if_neg (by omega), if_pos rfl, Nat.add_sub_cancel_left]
    match j, hj with
    | 0, _ => rfl
    | 1, _ => rfl
    | 2, _ => rfl
    | 3, _ => rfl
  · rw [if_pos (by omega), if_neg (by omega), if_neg (by omega), show i * 4 + j - (k + 1) * 4 = (i - (k + 1)) * 4 + j by omega, List.getD, hsc _ _ (by omega) hj, show k + (i - (k + 1)) = i - 1 by omega]
    rfl
set_option maxRecDepth 100000 in
set_option maxHeartbeats 3200000 in
theorem InsertTeam_grow (c : Nat → Nat → Value) (x : Nat → Value) (k d γ vb cap : Nat) (w : World) (h : OwnL w γ (γ + 1) 40 4 (.slice (some ⟨γ, 0, none⟩) (k + d + 1) cap) (k + d + 1) ((k + d + 1) * 4) (fun o => c (o / 4) (o % 4))) (hn : k + d + 1 ≤ 6) (hγ : γ < w.heap.size) (hroom : cap < k + d + 2)
    (hvb : w.heap[vb]? = some (.cells #[x 0, x 1, x 2, x 3] 40 (0, 0))) (hc1 : ∀ i j, i < k + d + 1 → j < 4 → (c i j).oneCell' = true) (hx1 : ∀ j, j < 4 → (x j).oneCell' = true) :
    Calls Try.prog 107 #[.slice (some ⟨γ, 0, none⟩) (k + d + 1) cap, .int .i64 k, .slice (some ⟨vb, 0, none⟩) 1 1] w fun e w' => ∃ G, e = .returned (.slice (some ⟨w.heap.size, 0, none⟩) (k + d + 2) G) ∧ OwnL w' w.heap.size (w.heap.size + 1) 40 4 (.slice (some ⟨w.heap.size, 0, none⟩) (k + d + 2) G) (k + d + 2) ((k + d + 2) * 4) (fun o => insC k c x (o / 4) (o % 4)) ∧ Below w.heap.size w w' ∧ w.heap.size < w'.heap.size := by
  obtain ⟨hcap, hmax⟩ := h.cap_le (by omega)
  unfold maxLen at hmax
  obtain ⟨ii, hii, iz0, iz1, iz2⟩ := info_parts infoTeam
  have hvlt : vb < w.heap.size := (Array.getElem?_eq_some_iff.1 hvb).1
  have hcell : ∀ o, o < (k + d + 1) * 4 → w.cell? ⟨γ, o, none⟩ = some (c (o / 4) (o % 4)) := fun o ho => (h.cell (by omega) ho).2.2 ho
  have hcv : ∀ j u, [x 0, x 1, x 2, x 3][j]? = some u → w.cell? ⟨vb, j, none⟩ = some u := fun j u hu => by
    simp only [World.cell?, hvb]
    match j, hu with
    | 0, hu => simpa using hu
    | 1, hu => simpa using hu
    | 2, hu => simpa using hu
    | 3, hu => simpa using hu
  obtain ⟨cs, hcs⟩ : ∃ cs, cs = rowL (fun i j => c (k + i) j) 4 (d + 1) := ⟨_, rfl⟩
  have hcl : cs.length = (d + 1) * 4 := by rw [hcs]; exact rowL_len _ _ _
  have hcg : ∀ i j, i < d + 1 → j < 4 → cs[i * 4 + j]? = some (c (k + i) j) := fun i j hi hj => by rw [hcs]; exact rowL_get _ _ hi hj
  have hold : (Builtin.firstCells ii.size k (.slice (some ⟨γ, 0, none⟩) k cap)).run Try.prog w.drew = .ok (rowL c 4 k).toArray w.drew := by
    rw [iz1]
    refine run_firstCells_some w.drew 4 k ⟨γ, 0, none⟩ k cap (rowL c 4 k) (rowL_len _ _ _) (fun j v hj => ?_)
    have hj4 := (List.getElem?_eq_some_iff.1 hj).1
    rw [rowL_len] at hj4
    have h3 := rowL_get c 4 (k := k) (i := j / 4) (j := j % 4) (by omega) (by omega)
    rw [Nat.div_add_mod', hj] at h3
    rw [Addr.add_lit, Nat.zero_add, h3]
    exact hcell j (by omega)
  obtain ⟨G, hG⟩ : ∃ G, G = grownCap w (k + (d + 2)) cap 40 := ⟨_, rfl⟩
  obtain ⟨ROW, hROW⟩ : ∃ ROW : Array Value, ROW = (rowL c 4 k).toArray ++ Builtin.zeroCells (Value.agg #[.string ⟨#[]⟩, .int .i64 0, .int .i64 0, .slice none 0 0]).cells (d + 2) ++ Builtin.zeroCells (Value.agg #[.string ⟨#[]⟩, .int .i64 0, .int .i64 0, .slice none 0 0]).cells (G - (k + (d + 2))) := ⟨_, rfl⟩
  have hrz : ∀ ty, (Builtin.append_ #[24, 3] ty #[.slice (some ⟨γ, 0, none⟩) k cap, .int .i64 ((d : Int) + 2)]).run Try.prog w =
      .ok (.slice (some ⟨w.heap.size, 0, none⟩) (k + d + 2) G) (w.drew.alloc (.cells ROW 40)) := fun ty => by
    have h5 := Lib.run_append_grow_zeros w 24 3 ty 40 ii _ .i64 .i64 Try.underlying24 Try.underlying3 hii iz0 (some ⟨γ, 0, none⟩) k cap (rowL c 4 k) hold (d + 2) (by omega) (by omega) (by omega) (by omega) (by rw [iz2]; omega) (by rw [iz2]; exact growslice_fits (by omega) (by omega))
    rw [← hG, ← hROW] at h5
    exact h5
  have hGn : k + (d + 2) ≤ G := by rw [hG]; exact grownCap_ge w _ _ _
  have hG63 : G ≤ maxLen := by rw [hG]; exact grownCap_le_maxLen w _ _ _ (by unfold maxLen; omega)
  have hRl : ROW.size = G * 4 := by
    rw [hROW]
    have : (Value.agg #[.string ⟨#[]⟩, .int .i64 0, .int .i64 0, .slice none 0 0]).cells.size = 4 := by kernel_rfl
    simp only [Array.size_append, List.size_toArray, rowL_len, size_zeroCells, this]
    omega
  obtain ⟨W0, hW0⟩ : ∃ W0, W0 = w.drew.alloc (.cells ROW 40) := ⟨_, rfl⟩
  obtain ⟨W1, hW1⟩ : ∃ W1, W1 = (W0.setCells w.heap.size (k * 4) [x 0, x 1, x 2, x 3]).drew := ⟨_, rfl⟩
  obtain ⟨W2, hW2⟩ : ∃ W2, W2 = W1.setCells w.heap.size ((k + 1) * 4) cs := ⟨_, rfl⟩
  have hx : OwnL W0 w.heap.size (w.heap.size + 1) 40 4 (.slice (some ⟨w.heap.size, 0, none⟩) (k + d + 2) G) (k + d + 2) ((k + d + 2) * 4) (fun o => (ROW.toList.take ((k + d + 2) * 4)).getD o (.bool false)) := by
    have hlen : (ROW.toList.take ((k + d + 2) * 4)).length = (k + d + 2) * 4 := by rw [List.length_take, Array.length_toList, hRl]; omega
    refine .inr ⟨w.heap.size, G, ROW.toList.take ((k + d + 2) * 4), rfl, Nat.le_refl _, Nat.lt_succ_self _, by omega, ⟨hlen, .inr ⟨w.heap.size, G, ROW, rfl, Nat.le_refl _, ?_, by omega, hG63, hRl, rfl⟩⟩, fun o ho _ => ?_⟩
    · rw [hW0]; exact heap_alloc_new w.drew _
    · simp [List.getD, List.getElem?_eq_getElem (show o < (ROW.toList.take ((k + d + 2) * 4)).length by omega)]
  have hcc : ∀ o, o < k * 4 → (ROW.toList.take ((k + d + 2) * 4)).getD o (.bool false) = c (o / 4) (o % 4) := fun o ho => by
    have h3 := rowL_get c 4 (k := k) (i := o / 4) (j := o % 4) (by omega) (by omega)
    rw [Nat.div_add_mod'] at h3
    rw [List.getD, List.getElem?_take, if_pos (by omega), hROW]
    simp only [Array.toList_append, List.append_assoc]
    rw [List.getElem?_append_left (by rw [rowL_len]; omega), h3]
    rfl
  have hfin := hx.shifted2 (c := c) (x := x) hcc cs hcl hcg hW1 hW2
  have hall : ∀ o, o < (k + d + 2) * 4 → (W0.cell? ⟨w.heap.size, o, none⟩).isSome = true ∧ W0.frozen? ⟨w.heap.size, o, none⟩ = false := fun o ho => by
    obtain ⟨⟨u, a⟩, b, _⟩ := hx.cell (by omega) ho
    rw [a]
    exact ⟨rfl, b⟩
  have ho1 := hx.setCells (vs := [x 0, x 1, x 2, x 3]) (o := k * 4) (by simp; omega)
  have hall1 : ∀ o, o < (k + d + 2) * 4 → (W1.cell? ⟨w.heap.size, o, none⟩).isSome = true ∧ W1.frozen? ⟨w.heap.size, o, none⟩ = false := fun o ho => by
    obtain ⟨⟨u, a⟩, b, _⟩ := ho1.cell (by omega) ho
    rw [hW1]
    exact ⟨by show (World.cell? (W0.setCells _ _ _) _).isSome = true; rw [a]; rfl, b⟩
  have hold0 : ∀ b o, b < w.heap.size → W0.cell? ⟨b, o, none⟩ = w.cell? ⟨b, o, none⟩ := fun b o hb => by
    rw [hW0]
    exact World.cell?_of_block (a := ⟨b, o, none⟩) (heap_alloc_old w.drew _ hb)
  have hold1 : ∀ b o, b < w.heap.size → W1.cell? ⟨b, o, none⟩ = w.cell? ⟨b, o, none⟩ := fun b o hb => by
    rw [hW1]
    show World.cell? (W0.setCells _ _ _) _ = _
    rw [World.cell?_setCells_out _ _ _ _ _ (fun e _ => by have e : b = w.heap.size := e; omega)]
    exact hold0 b o hb
  have hcp1 : ∀ (W : World), (∀ y, W.cell? y = W0.cell? y) → (∀ y, W.frozen? y = W0.frozen? y) → ∀ ty dl dc, dl = d + 2 → (Builtin.copy_ #[24, 24] ty #[.slice (some ⟨w.heap.size, k * 4, none⟩) dl dc, .slice (some ⟨vb, 0, none⟩) 1 1]).run Try.prog W = .ok (goInt (Nat.min 1 (d + 2))) (W.setCells w.heap.size (k * 4) [x 0, x 1, x 2, x 3]) := fun W hWc hWf ty dl dc e1 => by
    subst e1
    refine run_copy_wide W _ _ ty 40 w.heap.size (k * 4) (d + 2) dc ⟨vb, 0, none⟩ 1 1 4 [x 0, x 1, x 2, x 3] Try.underlying24 infoT4 (by simp only [Nat.min_def]; split <;> first | (simp; done) | (simp; omega) | omega) (fun j v hj => ?_) (fun j hj => by rw [hWc]; simp at hj; exact (hall _ (by omega)).1) (fun j hj => by rw [hWf]; simp at hj; exact (hall _ (by omega)).2) (fun v hv => ?_)
    · rw [Addr.add_lit, hWc, Nat.zero_add, hold0 _ _ hvlt]
      exact hcv j v hj
    · simp at hv
      rcases hv with rfl | rfl | rfl | rfl
      · exact hx1 0 (by omega)
      · exact hx1 1 (by omega)
      · exact hx1 2 (by omega)
      · exact hx1 3 (by omega)
  have hcp2 : ∀ (W : World), (∀ y, W.cell? y = W1.cell? y) → (∀ y, W.frozen? y = W1.frozen? y) → ∀ ty dl dc sl sc, dl = d + 1 → sl = d + 1 → (Builtin.copy_ #[24, 24] ty #[.slice (some ⟨w.heap.size, (k + 1) * 4, none⟩) dl dc, .slice (some ⟨γ, k * 4, none⟩) sl sc]).run Try.prog W = .ok (goInt (Nat.min (d + 1) (d + 1))) (W.setCells w.heap.size ((k + 1) * 4) cs) := fun W hWc hWf ty dl dc sl sc e1 e2 => by
    subst e1 e2
    refine run_copy_wide W _ _ ty 40 w.heap.size ((k + 1) * 4) (d + 1) dc ⟨γ, k * 4, none⟩ (d + 1) sc 4 cs Try.underlying24 infoT4 (by rw [hcl]; simp only [Nat.min_def]; split <;> omega) (fun j v hj => ?_) (fun j hj => by rw [hWc]; exact (hall1 _ (by omega)).1) (fun j hj => by rw [hWf]; exact (hall1 _ (by omega)).2) (fun v hv => ?_)
    · have hj4 := (List.getElem?_eq_some_iff.1 hj).1
      have h2 := hcell (k * 4 + j) (by omega)
      rw [Addr.add_lit, hWc, hold1 _ _ hγ, h2]
      have h3 := hcg (j / 4) (j % 4) (by omega) (by omega)
      rw [Nat.div_add_mod', hj] at h3
      rw [h3, show (k * 4 + j) / 4 = k + j / 4 by omega, show (k * 4 + j) % 4 = j % 4 by omega]
    · rw [hcs] at hv
      obtain ⟨i, j, hi, hj, rfl⟩ := rowL_mem hv
      exact hc1 _ _ (by omega) hj
  have HF := hide hfin
  have hBel : Hid (Below w.heap.size w W2 ∧ w.heap.size < W2.heap.size) := by
    have b0 : Below w.heap.size w W0 := by rw [hW0]; exact (Below.drew (Below.refl _ _)).alloc (Nat.le_refl _) _
    have z0 : W0.heap.size = w.heap.size + 1 := by rw [hW0]; simp
    have o1 : Only w.heap.size (w.heap.size + 1) W0 (W0.setCells w.heap.size (k * 4) [x 0, x 1, x 2, x 3]) := Only.setCells (Only.refl _ _ _)
    have b1 : Below w.heap.size w W1 := by
      rw [hW1]
      exact Below.drew (b0.trans (o1.below (Nat.le_refl _) (by omega)))
    have o2 : Only w.heap.size (w.heap.size + 1) W1 (W1.setCells w.heap.size ((k + 1) * 4) cs) := Only.setCells (Only.refl _ _ _)
    have z1 : W1.heap.size = w.heap.size + 1 := by rw [hW1]; show (W0.setCells _ _ _).heap.size = _; rw [setCells_size, z0]
    refine ⟨?_, ?_⟩
    · rw [hW2]; exact b1.trans (o2.below (Nat.le_refl _) (by omega))
    · rw [hW2, setCells_size, z1]; omega
  have HW0 := hide hW0
  have HW1 := hide hW1
  have HW2 := hide hW2
  have HRZ := hide hrz
  unfold maxLen at hG63
  clear hfin ho1 hall hall1 hx hcc hcell hcg hcl hcs h hW1 hW2 hW0 hold0 hold1 hold hROW hRl hG hcv
  have l1 : k ≤ cap := by omega
  have l2 : ¬ G = k := by omega
  have l3 : ¬ cap = k := by omega
  have l4 : ¬ G = k + 1 := by omega
  have l5 : (k : Int) + 1 ≤ (k : Int) + (d : Int) + 2 := by omega
  have l6 : (0 : Int) ≤ (k : Int) + 1 := by omega
  have l7 : (k : Int) ≤ (k : Int) + (d : Int) + 1 := by omega
  have l8 : ¬ ((k : Int) = (k : Int) + (d : Int) + 1) := by omega
  have l9 : (cap : Int) < (k : Int) + (d : Int) + 1 + 1 := by omega
  have l10 : (k : Int) ≤ (k : Int) + (d : Int) + 2 := by omega
  have w1 : IntKind.i64.wrap ((k : Int) + 1) = (k : Int) + 1 := by rw [IntKind.wrap_i64]; omega
  have w2 : IntKind.i64.wrap ((k : Int) + (d : Int) + 1 + 1) = (k : Int) + (d : Int) + 1 + 1 := by rw [IntKind.wrap_i64]; omega
  have w3 : (k : Int) + (d : Int) + 1 + 1 - (k : Int) = (d : Int) + 2 := by omega
  go_enter Try.func107, Try.ntmps107
  have hE1 : ∀ y, ((w.alloc (.cells ROW 40)).drew).cell? y = W0.cell? y := fun y => by rw [HW0.out]; rfl
  have hE2 : ∀ y, ((w.alloc (.cells ROW 40)).drew).frozen? y = W0.frozen? y := fun y => by rw [HW0.out]; rfl
  have hF0 : ((w.alloc (.cells ROW 40)).drew.setCells w.heap.size (k * 4) [x 0, x 1, x 2, x 3]).drew = W1 := by rw [HW1.out, HW0.out]; rfl
  have HE := hide hE1
  have HE' := hide hE2
  have HF0 := hide hF0
  have HC1 := hide hcp1
  have HC2 := hide hcp2
  clear hE1 hE2 hF0 hcp1 hcp2 hrz
  have hcpA : ∀ ty, (Builtin.copy_ #[24, 24] ty #[.slice (some ⟨w.heap.size, k * 4, none⟩) (k + d + 2 - k) (G - k), .slice (some ⟨vb, 0, none⟩) 1 1]).run Try.prog ((w.alloc (.cells ROW 40)).drew) = .ok (goInt (Nat.min 1 (d + 2))) ((w.alloc (.cells ROW 40)).drew.setCells w.heap.size (k * 4) [x 0, x 1, x 2, x 3]) := fun ty => HC1.out _ HE.out HE'.out ty _ _ (by omega)
  go_wp2_with (at_builtin; refine Lib.wpList_append_run _ rfl _ _ _ _ rfl _ _ rfl rfl _ _ (HRZ.out _) ?_)
  clear hcpA
  go_region_law (refine step_copy_at rfl _ _ 24 24 rfl (.slice (some ⟨w.heap.size, (k + 1) * 4, none⟩) (k + d + 2 - (k + 1)) (G - (k + 1))) (.slice (some ⟨γ, k * 4, none⟩) (k + d + 1 - k) (cap - k)) (by simp [Act.eval, Act.put]) (by simp [Act.eval, Act.put]) (HC2.out _ (fun _ => by rw [← HF0.out]) (fun _ => by rw [← HF0.out]) _ _ _ _ _ (by omega) (by omega)) ?_)
  rw [HF0.out, ← HW2.out]
  go_wp2_with fail
  go_ret
  exact ⟨G, rfl, HF.out, hBel.out⟩

end Go.Proofs.Ytpakjmiallhgnaa
