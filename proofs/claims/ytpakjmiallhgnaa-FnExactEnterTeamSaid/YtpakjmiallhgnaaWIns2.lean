/-
  Walks: slices.Insert of one team: there is room.
-/
import Derived.Test.YtpakjmiallhgnaaWIns
namespace Go.Proofs.Ytpakjmiallhgnaa
set_option linter.unusedVariables false
set_option linter.unusedSimpArgs false
open Go.RowKit

theorem infoT4 : (Try.prog.info? 40).map (·.size) = some 4 := by
  obtain ⟨ii, hii, _, iz1, _⟩ := info_parts infoTeam
  rw [hii]; simp [iz1]
set_option maxRecDepth 100000 in
set_option maxHeartbeats 3200000 in
theorem InsertTeam_shift (c : Nat → Nat → Value) (x : Nat → Value) (k d γ vb cap : Nat) (w : World) (h : OwnL w γ (γ + 1) 40 4 (.slice (some ⟨γ, 0, none⟩) (k + d + 1) cap) (k + d + 1) ((k + d + 1) * 4) (fun o => c (o / 4) (o % 4))) (hn : k + d + 1 ≤ 6) (hγ : γ < w.heap.size) (hroom : k + d + 2 ≤ cap)
    (hvb : w.heap[vb]? = some (.cells #[x 0, x 1, x 2, x 3] 40 (0, 0))) (hne : vb ≠ γ) (hc1 : ∀ i j, i < k + d + 1 → j < 4 → (c i j).oneCell' = true) (hx1 : ∀ j, j < 4 → (x j).oneCell' = true) :
    Calls Try.prog 107 #[.slice (some ⟨γ, 0, none⟩) (k + d + 1) cap, .int .i64 k, .slice (some ⟨vb, 0, none⟩) 1 1] w fun e w' => e = .returned (.slice (some ⟨γ, 0, none⟩) (k + d + 2) cap) ∧ OwnL w' γ (γ + 1) 40 4 (.slice (some ⟨γ, 0, none⟩) (k + d + 2) cap) (k + d + 2) ((k + d + 2) * 4) (fun o => insC k c x (o / 4) (o % 4)) ∧ Only γ (γ + 1) w w' := by
  obtain ⟨hcap, hmax⟩ := h.cap_le (by omega)
  unfold maxLen at hmax
  obtain ⟨cc, hx, hcc⟩ := h.ext1 (by omega) (by omega)
  have hsh : w.shape? γ = some (40, cap * 4) := by
    rcases h with ⟨h0, _⟩ | ⟨g', cap', xs, h0, a1, a2, a3, ⟨hl, a4⟩, a5⟩
    · omega
    · injection h0 with f1 _ f3
      injection f1 with f1
      injection f1 with f1
      subst f1 f3
      rcases a4 with ⟨a4, _⟩ | ⟨y, z, cur, he, hb, hh, hnc, hcm, hcs, ht⟩
      · cases a4
      · injection he with e1 _ e3
        injection e1 with e1
        injection e1 with e1
        subst e1 e3
        simp [World.shape?, hh, hcs]
  have hsv : w.shape? vb = some (40, 4) := by simp [World.shape?, hvb]
  have hfv : ∀ o, w.frozen? ⟨vb, o, none⟩ = false := fun o => by simp [World.frozen?, hvb]
  have hcv : ∀ j u, [x 0, x 1, x 2, x 3][j]? = some u → w.cell? ⟨vb, j, none⟩ = some u := fun j u hu => by
    simp only [World.cell?, hvb]
    match j, hu with
    | 0, hu => simpa using hu
    | 1, hu => simpa using hu
    | 2, hu => simpa using hu
    | 3, hu => simpa using hu
  obtain ⟨cs, hcs⟩ : ∃ cs, cs = rowL (fun i j => c (k + i) j) 4 (d + 1) := ⟨_, rfl⟩
  have hcl : cs.length = (d + 1) * 4 := by rw [hcs]; exact rowL_len _ _ _
  have hcg : ∀ i j, i < d + 1 → j < 4 → cs[i * 4 + j]? = some (c (k + i) j) := fun i j hi hj => by rw [hcs]; exact rowL_get _ _ hi hj
  obtain ⟨W1, hW1⟩ : ∃ W1, W1 = w.drew.setCells γ ((k + 1) * 4) cs := ⟨_, rfl⟩
  obtain ⟨W2, hW2⟩ : ∃ W2, W2 = W1.setCells γ (k * 4) [x 0, x 1, x 2, x 3] := ⟨_, rfl⟩
  have hxd : OwnL w.drew γ (γ + 1) 40 4 (.slice (some ⟨γ, 0, none⟩) (k + d + 2) cap) (k + d + 2) ((k + d + 2) * 4) cc := hx.keep1 rfl
  have hfin := hxd.shifted (c := c) (x := x) (fun o ho => hcc o (by omega) (by omega)) cs hcl hcg hW1 hW2
  have hcell : ∀ o, o < (k + d + 1) * 4 → w.cell? ⟨γ, o, none⟩ = some (c (o / 4) (o % 4)) := fun o ho => (h.cell (by omega) ho).2.2 ho
  have hall : ∀ o, o < (k + d + 2) * 4 → (w.drew.cell? ⟨γ, o, none⟩).isSome = true ∧ w.drew.frozen? ⟨γ, o, none⟩ = false := fun o ho => by
    obtain ⟨⟨u, a⟩, b, _⟩ := hxd.cell (by omega) ho
    rw [a]
    exact ⟨rfl, b⟩
  have ho1 := hxd.setCells (vs := cs) (o := (k + 1) * 4) (by omega)
  rw [← hW1] at ho1
  have hall1 : ∀ o, o < (k + d + 2) * 4 → (W1.cell? ⟨γ, o, none⟩).isSome = true ∧ W1.frozen? ⟨γ, o, none⟩ = false := fun o ho => by
    obtain ⟨⟨u, a⟩, b, _⟩ := ho1.cell (by omega) ho
    rw [a]
    exact ⟨rfl, b⟩
  have hcp1 : ∀ ty dl dc sl sc, dl = d + 1 → sl = d + 2 → (Builtin.copy_ #[24, 24] ty #[.slice (some ⟨γ, (k + 1) * 4, none⟩) dl dc, .slice (some ⟨γ, k * 4, none⟩) sl sc]).run Try.prog w.drew = .ok (goInt (Nat.min (d + 2) (d + 1))) W1 := fun ty dl dc sl sc e1 e2 => by
    subst e1 e2
    rw [hW1]
    refine run_copy_wide w.drew _ _ ty 40 γ ((k + 1) * 4) (d + 1) dc ⟨γ, k * 4, none⟩ (d + 2) sc 4 cs Try.underlying24 infoT4 (by rw [hcl]; simp only [Nat.min_def]; split <;> omega) (fun j v hj => ?_) (fun j hj => (hall _ (by omega)).1) (fun j hj => (hall _ (by omega)).2) (fun v hv => ?_)
    · have hj4 := (List.getElem?_eq_some_iff.1 hj).1
      have h2 := hcell (k * 4 + j) (by omega)
      rw [Addr.add_lit]
      show w.cell? _ = _
      rw [h2]
      have h3 := hcg (j / 4) (j % 4) (by omega) (by omega)
      rw [Nat.div_add_mod', hj] at h3
      rw [h3, show (k * 4 + j) / 4 = k + j / 4 by omega, show (k * 4 + j) % 4 = j % 4 by omega]
    · rw [hcs] at hv
      obtain ⟨i, j, hi, hj, rfl⟩ := rowL_mem hv
      exact hc1 _ _ (by omega) hj
  have hcp2 : ∀ (W : World), (∀ y, W.cell? y = W1.cell? y) → (∀ y, W.frozen? y = W1.frozen? y) → ∀ ty dl dc, dl = d + 2 → (Builtin.copy_ #[24, 24] ty #[.slice (some ⟨γ, k * 4, none⟩) dl dc, .slice (some ⟨vb, 0, none⟩) 1 1]).run Try.prog W = .ok (goInt (Nat.min 1 (d + 2))) (W.setCells γ (k * 4) [x 0, x 1, x 2, x 3]) := fun W hWc hWf ty dl dc e1 => by
    subst e1
    refine run_copy_wide W _ _ ty 40 γ (k * 4) (d + 2) dc ⟨vb, 0, none⟩ 1 1 4 [x 0, x 1, x 2, x 3] Try.underlying24 infoT4 (by simp only [Nat.min_def]; split <;> first | (simp; done) | (simp; omega) | omega) (fun j v hj => ?_) (fun j hj => by rw [hWc]; simp at hj; exact (hall1 _ (by omega)).1) (fun j hj => by rw [hWf]; simp at hj; exact (hall1 _ (by omega)).2) (fun v hv => ?_)
    · rw [Addr.add_lit, hWc, hW1, World.cell?_setCells_out γ _ _ _ _ (fun e _ => absurd e hne), Nat.zero_add]
      exact hcv j v hj
    · simp at hv
      rcases hv with rfl | rfl | rfl | rfl
      · exact hx1 0 (by omega)
      · exact hx1 1 (by omega)
      · exact hx1 2 (by omega)
      · exact hx1 3 (by omega)
  have hov : ∀ lb cb, (callFunc 133 #[.slice (some ⟨vb, 0, none⟩) 1 1, .slice (some ⟨γ, (k + 1) * 4, none⟩) lb cb]).run Try.prog w = .ok (.value (.bool false)) w := fun lb cb => by
    rw [run_callFunc_extern Try.func133 (by kernel_rfl) (by kernel_rfl) (by kernel_rfl) (e := Extern.SlicesOverlaps.overlaps #[24, 24] #[4]) (by kernel_rfl),
      Lib.run_overlaps_apart w 24 4 40 Try.underlying24 4 Try.sizeOf40 ⟨vb, 0, none⟩ ⟨γ, (k + 1) * 4, none⟩ 1 1 lb cb hne _ _ _ _ hsv hsh (by omega) (hfv 0) (hfv 4)]
    rfl
  have HF := hide hfin
  have hO : Hid (Only γ (γ + 1) w W2) := by
    show Only _ _ _ _
    rw [hW2]
    refine Only.setCells ?_
    rw [hW1]
    exact Only.setCells ⟨rfl, rfl, rfl, Nat.le_refl _, fun _ _ _ => rfl⟩
  have HW2 := hide hW2
  clear hfin ho1 hall hall1 hxd hx hcc hcell hcg hcl hcs h hW1 hW2 hsh hsv hfv hcv
  have l1 : k ≤ cap := by omega
  have l2 : k + 1 ≤ cap := by omega
  have l3 : ¬ cap = k := by omega
  have l4 : ¬ cap = k + 1 := by omega
  have l5 : (k : Int) + 1 ≤ (k : Int) + (d : Int) + 1 := by omega
  have l6 : (0 : Int) ≤ (k : Int) + 1 := by omega
  have l7 : (k : Int) ≤ (k : Int) + (d : Int) + 1 := by omega
  have l8 : ¬ ((k : Int) = (k : Int) + (d : Int) + 1) := by omega
  have l9 : ¬ ((cap : Int) < (k : Int) + (d : Int) + 1 + 1) := by omega
  have l10 : (k : Int) ≤ (k : Int) + (d : Int) + 1 + 1 := by omega
  have w1 : IntKind.i64.wrap ((k : Int) + 1) = (k : Int) + 1 := by rw [IntKind.wrap_i64]; omega
  have w2 : IntKind.i64.wrap ((k : Int) + (d : Int) + 1 + 1) = (k : Int) + (d : Int) + 1 + 1 := by rw [IntKind.wrap_i64]; omega
  go_enter Try.func107, Try.ntmps107
  go_wp2_with (simp only [hov])
  go_region_law (refine step_copy_at rfl _ _ 24 24 rfl (.slice (some ⟨γ, (k + 1) * 4, none⟩) (k + d + 1 - k) (cap - (k + 1))) (.slice (some ⟨γ, k * 4, none⟩) (k + d + 1 + 1 - k) (cap - k)) (by simp [Act.eval, Act.put]) (by simp [Act.eval, Act.put]) (hcp1 _ _ _ _ _ (by omega) (by omega)) ?_)
  have hcp3 : ∀ ty, (Builtin.copy_ #[24, 24] ty #[.slice (some ⟨γ, k * 4, none⟩) (k + d + 1 + 1 - k) (cap - k), .slice (some ⟨vb, 0, none⟩) 1 1]).run Try.prog W1 = .ok (goInt (Nat.min 1 (d + 2))) W2 := fun ty => by
    rw [hcp2 W1 (fun _ => rfl) (fun _ => rfl) ty _ _ (by omega), HW2.out]
  clear hcp1 hcp2
  go_wp2_with fail
  go_ret
  exact ⟨rfl, HF.out, hO.out⟩

end Go.Proofs.Ytpakjmiallhgnaa
