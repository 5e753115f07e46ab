/-
  Texts of this proof, one behind the other (part 13).
-/
import Derived.Test.YtnmmkechkcfjnaaGreatDoorQ12
import Derived.BigRegion
/-
  Walks: a period put into a list of the call's own, at a place: slices.Insert (turned from WIns, WIns2, WIns3, WEnter by gen_ins3.py).-/
namespace Go.Proofs.YtnmmkechkcfjnaaGreatDoor
set_option linter.unusedVariables false
set_option linter.unusedSimpArgs false
open Go.RowKit

theorem infoPerI : (Tryz.prog.info? 38).map (fun i => (i.zero, i.size, i.bytes)) = some (some (.agg #[.string ⟨#[]⟩, .int .i64 0, .int .i64 0]), 3, 32) := by kernel_rfl

theorem OwnL.shifted {w W1 W2 : World} {γ E k d cap : Nat} {cc : Nat → Value} {c : Nat → Nat → Value} {x : Nat → Value} (h : OwnL w γ (γ + 1) E 3 (.slice (some ⟨γ, 0, none⟩) (k + d + 2) cap) (k + d + 2) ((k + d + 2) * 3) cc)
    (hcc : ∀ o, o < k * 3 → cc o = c (o / 3) (o % 3)) (s : List Value) (hs : s.length = (d + 1) * 3) (hsc : ∀ i j, i < d + 1 → j < 3 → s[i * 3 + j]? = some (c (k + i) j))
    (hW1 : W1 = w.setCells γ ((k + 1) * 3) s) (hW2 : W2 = W1.setCells γ (k * 3) [x 0, x 1, x 2]) :
    OwnL W2 γ (γ + 1) E 3 (.slice (some ⟨γ, 0, none⟩) (k + d + 2) cap) (k + d + 2) ((k + d + 2) * 3) (fun o => insC k c x (o / 3) (o % 3)) := by
  have a1 := h.setCells (vs := s) (o := (k + 1) * 3) (by omega)
  rw [← hW1] at a1
  have a2 := a1.setCells (vs := [x 0, x 1, x 2]) (o := k * 3) (by simp; omega)
  rw [← hW2] at a2
  refine a2.congr fun o ho => ?_
  obtain ⟨i, j, hj, rfl⟩ : ∃ i j, j < 3 ∧ o = i * 3 + j := ⟨o / 3, o % 3, by omega, by omega⟩
  have e1 : (i * 3 + j) / 3 = i := by omega
  have e2 : (i * 3 + j) % 3 = j := by omega
  simp only [List.length_cons, List.length_nil]
  rw [e1, e2]
  unfold insC
  rcases Nat.lt_trichotomy i k with hik | hik | hik
  · rw [if_neg (by omega), if_neg (by omega), if_pos hik, hcc _ (by omega), e1, e2]
  · subst hik
    rw [if_pos (by omega), if_neg (by omega), if_pos rfl, Nat.add_sub_cancel_left]
    match j, hj with
    | 0, _ => rfl
    | 1, _ => rfl
    | 2, _ => rfl
  · rw [if_neg (by omega), if_pos (by omega), if_neg (by omega), if_neg (by omega), show i * 3 + j - (k + 1) * 3 = (i - (k + 1)) * 3 + j by omega, List.getD, hsc _ _ (by omega) hj, show k + (i - (k + 1)) = i - 1 by omega]
    rfl
theorem infoP3 : (Tryz.prog.info? 38).map (·.size) = some 3 := by
  obtain ⟨ii, hii, _, iz1, _⟩ := info_parts infoPerI
  rw [hii]; simp [iz1]
set_option maxRecDepth 100000 in
set_option maxHeartbeats 3200000 in
theorem InsertPer_shift (c : Nat → Nat → Value) (x : Nat → Value) (k d γ vb cap : Nat) (w : World) (h : OwnL w γ (γ + 1) 38 3 (.slice (some ⟨γ, 0, none⟩) (k + d + 1) cap) (k + d + 1) ((k + d + 1) * 3) (fun o => c (o / 3) (o % 3))) (hn : k + d + 1 ≤ 12) (hγ : γ < w.heap.size) (hroom : k + d + 2 ≤ cap)
    (hvb : w.heap[vb]? = some (.cells #[x 0, x 1, x 2] 38 (0, 0))) (hne : vb ≠ γ) (hc1 : ∀ i j, i < k + d + 1 → j < 3 → (c i j).oneCell' = true) (hx1 : ∀ j, j < 3 → (x j).oneCell' = true) :
    Calls Tryz.prog 48 #[.slice (some ⟨γ, 0, none⟩) (k + d + 1) cap, .int .i64 k, .slice (some ⟨vb, 0, none⟩) 1 1] w fun e w' => e = .returned (.slice (some ⟨γ, 0, none⟩) (k + d + 2) cap) ∧ OwnL w' γ (γ + 1) 38 3 (.slice (some ⟨γ, 0, none⟩) (k + d + 2) cap) (k + d + 2) ((k + d + 2) * 3) (fun o => insC k c x (o / 3) (o % 3)) ∧ Only γ (γ + 1) w w' := by
  obtain ⟨hcap, hmax⟩ := h.cap_le (by omega)
  unfold maxLen at hmax
  obtain ⟨cc, hx, hcc⟩ := h.ext1 (by omega) (by omega)
  have hsh : w.shape? γ = some (38, cap * 3) := by
    rcases h with ⟨h0, _⟩ | ⟨g', cap', xs, h0, a1, a2, a3, ⟨hl, a4⟩, a5⟩
    · omega
    · injection h0 with f1 _ f3
      injection f1 with f1
      injection f1 with f1
      subst f1 f3
      rcases a4 with ⟨a4, _⟩ | ⟨y, z, cur, he, hb, hh, hnc, hcm, hcs, ht⟩
      · cases a4
      · injection he with e1 _ e3
        injection e1 with e1
        injection e1 with e1
        subst e1 e3
        simp [World.shape?, hh, hcs]
  have hsv : w.shape? vb = some (38, 3) := by simp [World.shape?, hvb]
  have hfv : ∀ o, w.frozen? ⟨vb, o, none⟩ = false := fun o => by simp [World.frozen?, hvb]
  have hcv : ∀ j u, [x 0, x 1, x 2][j]? = some u → w.cell? ⟨vb, j, none⟩ = some u := fun j u hu => by
    simp only [World.cell?, hvb]
    match j, hu with
    | 0, hu => simpa using hu
    | 1, hu => simpa using hu
    | 2, hu => simpa using hu
  obtain ⟨cs, hcs⟩ : ∃ cs, cs = rowL (fun i j => c (k + i) j) 3 (d + 1) := ⟨_, rfl⟩
  have hcl : cs.length = (d + 1) * 3 := by rw [hcs]; exact rowL_len _ _ _
  have hcg : ∀ i j, i < d + 1 → j < 3 → cs[i * 3 + j]? = some (c (k + i) j) := fun i j hi hj => by rw [hcs]; exact rowL_get _ _ hi hj
  obtain ⟨W1, hW1⟩ : ∃ W1, W1 = w.drew.setCells γ ((k + 1) * 3) cs := ⟨_, rfl⟩
  obtain ⟨W2, hW2⟩ : ∃ W2, W2 = W1.setCells γ (k * 3) [x 0, x 1, x 2] := ⟨_, rfl⟩
  have hxd : OwnL w.drew γ (γ + 1) 38 3 (.slice (some ⟨γ, 0, none⟩) (k + d + 2) cap) (k + d + 2) ((k + d + 2) * 3) cc := hx.keep1 rfl
  have hfin := hxd.shifted (c := c) (x := x) (fun o ho => hcc o (by omega) (by omega)) cs hcl hcg hW1 hW2
  have hcell : ∀ o, o < (k + d + 1) * 3 → w.cell? ⟨γ, o, none⟩ = some (c (o / 3) (o % 3)) := fun o ho => (h.cell (by omega) ho).2.2 ho
  have hall : ∀ o, o < (k + d + 2) * 3 → (w.drew.cell? ⟨γ, o, none⟩).isSome = true ∧ w.drew.frozen? ⟨γ, o, none⟩ = false := fun o ho => by
    obtain ⟨⟨u, a⟩, b, _⟩ := hxd.cell (by omega) ho
    rw [a]
    exact ⟨rfl, b⟩
  have ho1 := hxd.setCells (vs := cs) (o := (k + 1) * 3) (by omega)
  rw [← hW1] at ho1
  have hall1 : ∀ o, o < (k + d + 2) * 3 → (W1.cell? ⟨γ, o, none⟩).isSome = true ∧ W1.frozen? ⟨γ, o, none⟩ = false := fun o ho => by
    obtain ⟨⟨u, a⟩, b, _⟩ := ho1.cell (by omega) ho
    rw [a]
    exact ⟨rfl, b⟩
  have hcp1 : ∀ ty dl dc sl sc, dl = d + 1 → sl = d + 2 → (Builtin.copy_ #[27, 27] ty #[.slice (some ⟨γ, (k + 1) * 3, none⟩) dl dc, .slice (some ⟨γ, k * 3, none⟩) sl sc]).run Tryz.prog w.drew = .ok (goInt (Nat.min (d + 2) (d + 1))) W1 := fun ty dl dc sl sc e1 e2 => by
    subst e1 e2
    rw [hW1]
    refine run_copy_wide w.drew _ _ ty 38 γ ((k + 1) * 3) (d + 1) dc ⟨γ, k * 3, none⟩ (d + 2) sc 3 cs Tryz.underlying27 infoP3 (by rw [hcl]; simp only [Nat.min_def]; split <;> omega) (fun j v hj => ?_) (fun j hj => (hall _ (by omega)).1) (fun j hj => (hall _ (by omega)).2) (fun v hv => ?_)
    · have hj4 := (List.getElem?_eq_some_iff.1 hj).1
      have h2 := hcell (k * 3 + j) (by omega)
      rw [Addr.add_lit]
      show w.cell? _ = _
      rw [h2]
      have h3 := hcg (j / 3) (j % 3) (by omega) (by omega)
      rw [Nat.div_add_mod', hj] at h3
      rw [h3, show (k * 3 + j) / 3 = k + j / 3 by omega, show (k * 3 + j) % 3 = j % 3 by omega]
    · rw [hcs] at hv
      obtain ⟨i, j, hi, hj, rfl⟩ := rowL_mem hv
      exact hc1 _ _ (by omega) hj
  have hcp2 : ∀ (W : World), (∀ y, W.cell? y = W1.cell? y) → (∀ y, W.frozen? y = W1.frozen? y) → ∀ ty dl dc, dl = d + 2 → (Builtin.copy_ #[27, 27] ty #[.slice (some ⟨γ, k * 3, none⟩) dl dc, .slice (some ⟨vb, 0, none⟩) 1 1]).run Tryz.prog W = .ok (goInt (Nat.min 1 (d + 2))) (W.setCells γ (k * 3) [x 0, x 1, x 2]) := fun W hWc hWf ty dl dc e1 => by
    subst e1
    refine run_copy_wide W _ _ ty 38 γ (k * 3) (d + 2) dc ⟨vb, 0, none⟩ 1 1 3 [x 0, x 1, x 2] Tryz.underlying27 infoP3 (by simp only [Nat.min_def]; split <;> first | (simp; done) | (simp; omega) | omega) (fun j v hj => ?_) (fun j hj => by rw [hWc]; simp at hj; exact (hall1 _ (by omega)).1) (fun j hj => by rw [hWf]; simp at hj; exact (hall1 _ (by omega)).2) (fun v hv => ?_)
    · rw [Addr.add_lit, hWc, hW1, World.cell?_setCells_out γ _ _ _ _ (fun e _ => absurd e hne), Nat.zero_add]
      exact hcv j v hj
    · simp at hv
      rcases hv with rfl | rfl | rfl
      · exact hx1 0 (by omega)
      · exact hx1 1 (by omega)
      · exact hx1 2 (by omega)
  have hov : ∀ lb cb, (callFunc 73 #[.slice (some ⟨vb, 0, none⟩) 1 1, .slice (some ⟨γ, (k + 1) * 3, none⟩) lb cb]).run Tryz.prog w = .ok (.value (.bool false)) w := fun lb cb => by
    rw [run_callFunc_extern Tryz.func73 (by kernel_rfl) (by kernel_rfl) (by kernel_rfl) (e := Extern.SlicesOverlaps.overlaps #[27, 27] #[4]) (by kernel_rfl),
      Lib.run_overlaps_apart w 27 4 38 Tryz.underlying27 3 Tryz.sizeOf38 ⟨vb, 0, none⟩ ⟨γ, (k + 1) * 3, none⟩ 1 1 lb cb hne _ _ _ _ hsv hsh (by omega) (hfv 0) (hfv 3)]
    rfl
  have HF := hide hfin
  have hO : Hid (Only γ (γ + 1) w W2) := by
    show Only _ _ _ _
    rw [hW2]
    refine Only.setCells ?_
    rw [hW1]
    exact Only.setCells ⟨rfl, rfl, rfl, Nat.le_refl _, fun _ _ _ => rfl⟩
  have HW2 := hide hW2
  clear hfin ho1 hall hall1 hxd hx hcc hcell hcg hcl hcs h hW1 hW2 hsh hsv hfv hcv
  have l1 : k ≤ cap := by omega
  have l2 : k + 1 ≤ cap := by omega
  have l3 : ¬ cap = k := by omega
  have l4 : ¬ cap = k + 1 := by omega
  have l5 : (k : Int) + 1 ≤ (k : Int) + (d : Int) + 1 := by omega
  have l6 : (0 : Int) ≤ (k : Int) + 1 := by omega
  have l7 : (k : Int) ≤ (k : Int) + (d : Int) + 1 := by omega
  have l8 : ¬ ((k : Int) = (k : Int) + (d : Int) + 1) := by omega
  have l9 : ¬ ((cap : Int) < (k : Int) + (d : Int) + 1 + 1) := by omega
  have l10 : (k : Int) ≤ (k : Int) + (d : Int) + 1 + 1 := by omega
  have w1 : IntKind.i64.wrap ((k : Int) + 1) = (k : Int) + 1 := by rw [IntKind.wrap_i64]; omega
  have w2 : IntKind.i64.wrap ((k : Int) + (d : Int) + 1 + 1) = (k : Int) + (d : Int) + 1 + 1 := by rw [IntKind.wrap_i64]; omega
  go_enter Tryz.func48, Tryz.ntmps48
  go_wp2_with (simp only [hov])
  go_region_law (refine step_copy_at rfl _ _ 27 27 rfl (.slice (some ⟨γ, (k + 1) * 3, none⟩) (k + d + 1 - k) (cap - (k + 1))) (.slice (some ⟨γ, k * 3, none⟩) (k + d + 1 + 1 - k) (cap - k)) (by simp [Act.eval, Act.put]) (by simp [Act.eval, Act.put]) (hcp1 _ _ _ _ _ (by omega) (by omega)) ?_)
  have hcp3 : ∀ ty, (Builtin.copy_ #[27, 27] ty #[.slice (some ⟨γ, k * 3, none⟩) (k + d + 1 + 1 - k) (cap - k), .slice (some ⟨vb, 0, none⟩) 1 1]).run Tryz.prog W1 = .ok (goInt (Nat.min 1 (d + 2))) W2 := fun ty => by
    rw [hcp2 W1 (fun _ => rfl) (fun _ => rfl) ty _ _ (by omega), HW2.out]
  clear hcp1 hcp2
  go_wp2_with fail
  go_ret
  exact ⟨rfl, HF.out, hO.out⟩
theorem OwnL.shifted2 {w W1 W2 : World} {γ E k d cap : Nat} {cc : Nat → Value} {c : Nat → Nat → Value} {x : Nat → Value} (h : OwnL w γ (γ + 1) E 3 (.slice (some ⟨γ, 0, none⟩) (k + d + 2) cap) (k + d + 2) ((k + d + 2) * 3) cc)
    (hcc : ∀ o, o < k * 3 → cc o = c (o / 3) (o % 3)) (s : List Value) (hs : s.length = (d + 1) * 3) (hsc : ∀ i j, i < d + 1 → j < 3 → s[i * 3 + j]? = some (c (k + i) j))
    (hW1 : W1 = (w.setCells γ (k * 3) [x 0, x 1, x 2]).drew) (hW2 : W2 = W1.setCells γ ((k + 1) * 3) s) :
    OwnL W2 γ (γ + 1) E 3 (.slice (some ⟨γ, 0, none⟩) (k + d + 2) cap) (k + d + 2) ((k + d + 2) * 3) (fun o => insC k c x (o / 3) (o % 3)) := by
  have a0 := h.setCells (vs := [x 0, x 1, x 2]) (o := k * 3) (by simp; omega)
  have a1 : OwnL W1 γ (γ + 1) E 3 _ _ _ _ := a0.keep1 (w' := W1) (by rw [hW1]; rfl)
  have a2 := a1.setCells (vs := s) (o := (k + 1) * 3) (by omega)
  rw [← hW2] at a2
  refine a2.congr fun o ho => ?_
  obtain ⟨i, j, hj, rfl⟩ : ∃ i j, j < 3 ∧ o = i * 3 + j := ⟨o / 3, o % 3, by omega, by omega⟩
  have e1 : (i * 3 + j) / 3 = i := by omega
  have e2 : (i * 3 + j) % 3 = j := by omega
  simp only [List.length_cons, List.length_nil]
  rw [e1, e2]
  unfold insC
  rcases Nat.lt_trichotomy i k with hik | hik | hik
  · rw [if_neg (by omega), if_neg (by omega), if_pos hik, hcc _ (by omega), e1, e2]
  · subst hik
    rw [if_neg (by omega), if_pos (by omega), if_neg (by omega), if_pos rfl, Nat.add_sub_cancel_left]
    match j, hj with
    | 0, _ => rfl
    | 1, _ => rfl
    | 2, _ => rfl
  · rw [if_pos (by omega), if_neg (by omega), if_neg (by omega), show i * 3 + j - (k + 1) * 3 = (i - (k + 1)) * 3 + j by omega, List.getD, hsc _ _ (by omega) hj, show k + (i - (k + 1)) = i - 1 by omega]
    rfl
set_option maxRecDepth 100000 in
set_option maxHeartbeats 3200000 in
theorem InsertPer_grow (c : Nat → Nat → Value) (x : Nat → Value) (k d γ vb cap : Nat) (w : World) (h : OwnL w γ (γ + 1) 38 3 (.slice (some ⟨γ, 0, none⟩) (k + d + 1) cap) (k + d + 1) ((k + d + 1) * 3) (fun o => c (o / 3) (o % 3))) (hn : k + d + 1 ≤ 12) (hγ : γ < w.heap.size) (hroom : cap < k + d + 2)
    (hvb : w.heap[vb]? = some (.cells #[x 0, x 1, x 2] 38 (0, 0))) (hc1 : ∀ i j, i < k + d + 1 → j < 3 → (c i j).oneCell' = true) (hx1 : ∀ j, j < 3 → (x j).oneCell' = true) :
    Calls Tryz.prog 48 #[.slice (some ⟨γ, 0, none⟩) (k + d + 1) cap, .int .i64 k, .slice (some ⟨vb, 0, none⟩) 1 1] w fun e w' => ∃ G, e = .returned (.slice (some ⟨w.heap.size, 0, none⟩) (k + d + 2) G) ∧ OwnL w' w.heap.size (w.heap.size + 1) 38 3 (.slice (some ⟨w.heap.size, 0, none⟩) (k + d + 2) G) (k + d + 2) ((k + d + 2) * 3) (fun o => insC k c x (o / 3) (o % 3)) ∧ Below w.heap.size w w' ∧ w.heap.size < w'.heap.size := by
  obtain ⟨hcap, hmax⟩ := h.cap_le (by omega)
  unfold maxLen at hmax
  obtain ⟨ii, hii, iz0, iz1, iz2⟩ := info_parts infoPerI
  have hvlt : vb < w.heap.size := (Array.getElem?_eq_some_iff.1 hvb).1
  have hcell : ∀ o, o < (k + d + 1) * 3 → w.cell? ⟨γ, o, none⟩ = some (c (o / 3) (o % 3)) := fun o ho => (h.cell (by omega) ho).2.2 ho
  have hcv : ∀ j u, [x 0, x 1, x 2][j]? = some u → w.cell? ⟨vb, j, none⟩ = some u := fun j u hu => by
    simp only [World.cell?, hvb]
    match j, hu with
    | 0, hu => simpa using hu
    | 1, hu => simpa using hu
    | 2, hu => simpa using hu
  obtain ⟨cs, hcs⟩ : ∃ cs, cs = rowL (fun i j => c (k + i) j) 3 (d + 1) := ⟨_, rfl⟩
  have hcl : cs.length = (d + 1) * 3 := by rw [hcs]; exact rowL_len _ _ _
  have hcg : ∀ i j, i < d + 1 → j < 3 → cs[i * 3 + j]? = some (c (k + i) j) := fun i j hi hj => by rw [hcs]; exact rowL_get _ _ hi hj
  have hold : (Builtin.firstCells ii.size k (.slice (some ⟨γ, 0, none⟩) k cap)).run Tryz.prog w.drew = .ok (rowL c 3 k).toArray w.drew := by
    rw [iz1]
    refine run_firstCells_some w.drew 3 k ⟨γ, 0, none⟩ k cap (rowL c 3 k) (rowL_len _ _ _) (fun j v hj => ?_)
    have hj4 := (List.getElem?_eq_some_iff.1 hj).1
    rw [rowL_len] at hj4
    have h3 := rowL_get c 3 (k := k) (i := j / 3) (j := j % 3) (by omega) (by omega)
    rw [Nat.div_add_mod', hj] at h3
    rw [Addr.add_lit, Nat.zero_add, h3]
    exact hcell j (by omega)
  obtain ⟨G, hG⟩ : ∃ G, G = grownCap w (k + (d + 2)) cap 38 := ⟨_, rfl⟩
  obtain ⟨ROW, hROW⟩ : ∃ ROW : Array Value, ROW = (rowL c 3 k).toArray ++ Builtin.zeroCells (Value.agg #[.string ⟨#[]⟩, .int .i64 0, .int .i64 0]).cells (d + 2) ++ Builtin.zeroCells (Value.agg #[.string ⟨#[]⟩, .int .i64 0, .int .i64 0]).cells (G - (k + (d + 2))) := ⟨_, rfl⟩
  have hrz : ∀ ty, (Builtin.append_ #[27, 3] ty #[.slice (some ⟨γ, 0, none⟩) k cap, .int .i64 ((d : Int) + 2)]).run Tryz.prog w =
      .ok (.slice (some ⟨w.heap.size, 0, none⟩) (k + d + 2) G) (w.drew.alloc (.cells ROW 38)) := fun ty => by
    have h5 := Lib.run_append_grow_zeros w 27 3 ty 38 ii _ .i64 .i64 Tryz.underlying27 Tryz.underlying3 hii iz0 (some ⟨γ, 0, none⟩) k cap (rowL c 3 k) hold (d + 2) (by omega) (by omega) (by omega) (by omega) (by rw [iz2]; omega) (by rw [iz2]; exact growslice_fits (by omega) (by omega))
    rw [← hG, ← hROW] at h5
    exact h5
  have hGn : k + (d + 2) ≤ G := by rw [hG]; exact grownCap_ge w _ _ _
  have hG63 : G ≤ maxLen := by rw [hG]; exact grownCap_le_maxLen w _ _ _ (by unfold maxLen; omega)
  have hRl : ROW.size = G * 3 := by
    rw [hROW]
    have : (Value.agg #[.string ⟨#[]⟩, .int .i64 0, .int .i64 0]).cells.size = 3 := by kernel_rfl
    simp only [Array.size_append, List.size_toArray, rowL_len, size_zeroCells, this]
    omega
  obtain ⟨W0, hW0⟩ : ∃ W0, W0 = w.drew.alloc (.cells ROW 38) := ⟨_, rfl⟩
  obtain ⟨W1, hW1⟩ : ∃ W1, W1 = (W0.setCells w.heap.size (k * 3) [x 0, x 1, x 2]).drew := ⟨_, rfl⟩
  obtain ⟨W2, hW2⟩ : ∃ W2, W2 = W1.setCells w.heap.size ((k + 1) * 3) cs := ⟨_, rfl⟩
  have hx : OwnL W0 w.heap.size (w.heap.size + 1) 38 3 (.slice (some ⟨w.heap.size, 0, none⟩) (k + d + 2) G) (k + d + 2) ((k + d + 2) * 3) (fun o => (ROW.toList.take ((k + d + 2) * 3)).getD o (.bool false)) := by
    have hlen : (ROW.toList.take ((k + d + 2) * 3)).length = (k + d + 2) * 3 := by rw [List.length_take, Array.length_toList, hRl]; omega
    refine .inr ⟨w.heap.size, G, ROW.toList.take ((k + d + 2) * 3), rfl, Nat.le_refl _, Nat.lt_succ_self _, by omega, ⟨hlen, .inr ⟨w.heap.size, G, ROW, rfl, Nat.le_refl _, ?_, by omega, hG63, hRl, rfl⟩⟩, fun o ho _ => ?_⟩
    · rw [hW0]; exact heap_alloc_new w.drew _
    · simp [List.getD, List.getElem?_eq_getElem (show o < (ROW.toList.take ((k + d + 2) * 3)).length by omega)]
  have hcc : ∀ o, o < k * 3 → (ROW.toList.take ((k + d + 2) * 3)).getD o (.bool false) = c (o / 3) (o % 3) := fun o ho => by
    have h3 := rowL_get c 3 (k := k) (i := o / 3) (j := o % 3) (by omega) (by omega)
    rw [Nat.div_add_mod'] at h3
    rw [List.getD, List.getElem?_take, if_pos (by omega), hROW]
    simp only [Array.toList_append, List.append_assoc]
    rw [List.getElem?_append_left (by rw [rowL_len]; omega), h3]
    rfl
  have hfin := hx.shifted2 (c := c) (x := x) hcc cs hcl hcg hW1 hW2
  have hall : ∀ o, o < (k + d + 2) * 3 → (W0.cell? ⟨w.heap.size, o, none⟩).isSome = true ∧ W0.frozen? ⟨w.heap.size, o, none⟩ = false := fun o ho => by
    obtain ⟨⟨u, a⟩, b, _⟩ := hx.cell (by omega) ho
    rw [a]
    exact ⟨rfl, b⟩
  have ho1 := hx.setCells (vs := [x 0, x 1, x 2]) (o := k * 3) (by simp; omega)
  have hall1 : ∀ o, o < (k + d + 2) * 3 → (W1.cell? ⟨w.heap.size, o, none⟩).isSome = true ∧ W1.frozen? ⟨w.heap.size, o, none⟩ = false := fun o ho => by
    obtain ⟨⟨u, a⟩, b, _⟩ := ho1.cell (by omega) ho
    rw [hW1]
    exact ⟨by show (World.cell? (W0.setCells _ _ _) _).isSome = true; rw [a]; rfl, b⟩
  have hold0 : ∀ b o, b < w.heap.size → W0.cell? ⟨b, o, none⟩ = w.cell? ⟨b, o, none⟩ := fun b o hb => by
    rw [hW0]
    exact World.cell?_of_block (a := ⟨b, o, none⟩) (heap_alloc_old w.drew _ hb)
  have hold1 : ∀ b o, b < w.heap.size → W1.cell? ⟨b, o, none⟩ = w.cell? ⟨b, o, none⟩ := fun b o hb => by
    rw [hW1]
    show World.cell? (W0.setCells _ _ _) _ = _
    rw [World.cell?_setCells_out _ _ _ _ _ (fun e _ => by have e : b = w.heap.size := e; omega)]
    exact hold0 b o hb
  have hcp1 : ∀ (W : World), (∀ y, W.cell? y = W0.cell? y) → (∀ y, W.frozen? y = W0.frozen? y) → ∀ ty dl dc, dl = d + 2 → (Builtin.copy_ #[27, 27] ty #[.slice (some ⟨w.heap.size, k * 3, none⟩) dl dc, .slice (some ⟨vb, 0, none⟩) 1 1]).run Tryz.prog W = .ok (goInt (Nat.min 1 (d + 2))) (W.setCells w.heap.size (k * 3) [x 0, x 1, x 2]) := fun W hWc hWf ty dl dc e1 => by
    subst e1
    refine run_copy_wide W _ _ ty 38 w.heap.size (k * 3) (d + 2) dc ⟨vb, 0, none⟩ 1 1 3 [x 0, x 1, x 2] Tryz.underlying27 infoP3 (by simp only [Nat.min_def]; split <;> first | (simp; done) | (simp; omega) | omega) (fun j v hj => ?_) (fun j hj => by rw [hWc]; simp at hj; exact (hall _ (by omega)).1) (fun j hj => by rw [hWf]; simp at hj; exact (hall _ (by omega)).2) (fun v hv => ?_)
    · rw [Addr.add_lit, hWc, Nat.zero_add, hold0 _ _ hvlt]
      exact hcv j v hj
    · simp at hv
      rcases hv with rfl | rfl | rfl
      · exact hx1 0 (by omega)
      · exact hx1 1 (by omega)
      · exact hx1 2 (by omega)
  have hcp2 : ∀ (W : World), (∀ y, W.cell? y = W1.cell? y) → (∀ y, W.frozen? y = W1.frozen? y) → ∀ ty dl dc sl sc, dl = d + 1 → sl = d + 1 → (Builtin.copy_ #[27, 27] ty #[.slice (some ⟨w.heap.size, (k + 1) * 3, none⟩) dl dc, .slice (some ⟨γ, k * 3, none⟩) sl sc]).run Tryz.prog W = .ok (goInt (Nat.min (d + 1) (d + 1))) (W.setCells w.heap.size ((k + 1) * 3) cs) := fun W hWc hWf ty dl dc sl sc e1 e2 => by
    subst e1 e2
    refine run_copy_wide W _ _ ty 38 w.heap.size ((k + 1) * 3) (d + 1) dc ⟨γ, k * 3, none⟩ (d + 1) sc 3 cs Tryz.underlying27 infoP3 (by rw [hcl]; simp only [Nat.min_def]; split <;> omega) (fun j v hj => ?_) (fun j hj => by rw [hWc]; exact (hall1 _ (by omega)).1) (fun j hj => by rw [hWf]; exact (hall1 _ (by omega)).2) (fun v hv => ?_)
    · have hj4 := (List.getElem?_eq_some_iff.1 hj).1
      have h2 := hcell (k * 3 + j) (by omega)
      rw [Addr.add_lit, hWc, hold1 _ _ hγ, h2]
      have h3 := hcg (j / 3) (j % 3) (by omega) (by omega)
      rw [Nat.div_add_mod', hj] at h3
      rw [h3, show (k * 3 + j) / 3 = k + j / 3 by omega, show (k * 3 + j) % 3 = j % 3 by omega]
    · rw [hcs] at hv
      obtain ⟨i, j, hi, hj, rfl⟩ := rowL_mem hv
      exact hc1 _ _ (by omega) hj
  have HF := hide hfin
  have hBel : Hid (Below w.heap.size w W2 ∧ w.heap.size < W2.heap.size) := by
    have b0 : Below w.heap.size w W0 := by rw [hW0]; exact (Below.drew (Below.refl _ _)).alloc (Nat.le_refl _) _
    have z0 : W0.heap.size = w.heap.size + 1 := by rw [hW0]; simp
    have o1 : Only w.heap.size (w.heap.size + 1) W0 (W0.setCells w.heap.size (k * 3) [x 0, x 1, x 2]) := Only.setCells (Only.refl _ _ _)
    have b1 : Below w.heap.size w W1 := by
      rw [hW1]
      exact Below.drew (b0.trans (o1.below (Nat.le_refl _) (by omega)))
    have o2 : Only w.heap.size (w.heap.size + 1) W1 (W1.setCells w.heap.size ((k + 1) * 3) cs) := Only.setCells (Only.refl _ _ _)
    have z1 : W1.heap.size = w.heap.size + 1 := by rw [hW1]; show (W0.setCells _ _ _).heap.size = _; rw [setCells_size, z0]
    refine ⟨?_, ?_⟩
    · rw [hW2]; exact b1.trans (o2.below (Nat.le_refl _) (by omega))
    · rw [hW2, setCells_size, z1]; omega
  have HW0 := hide hW0
  have HW1 := hide hW1
  have HW2 := hide hW2
  have HRZ := hide hrz
  unfold maxLen at hG63
  clear hfin ho1 hall hall1 hx hcc hcell hcg hcl hcs h hW1 hW2 hW0 hold0 hold1 hold hROW hRl hG hcv
  have l1 : k ≤ cap := by omega
  have l2 : ¬ G = k := by omega
  have l3 : ¬ cap = k := by omega
  have l4 : ¬ G = k + 1 := by omega
  have l5 : (k : Int) + 1 ≤ (k : Int) + (d : Int) + 2 := by omega
  have l6 : (0 : Int) ≤ (k : Int) + 1 := by omega
  have l7 : (k : Int) ≤ (k : Int) + (d : Int) + 1 := by omega
  have l8 : ¬ ((k : Int) = (k : Int) + (d : Int) + 1) := by omega
  have l9 : (cap : Int) < (k : Int) + (d : Int) + 1 + 1 := by omega
  have l10 : (k : Int) ≤ (k : Int) + (d : Int) + 2 := by omega
  have w1 : IntKind.i64.wrap ((k : Int) + 1) = (k : Int) + 1 := by rw [IntKind.wrap_i64]; omega
  have w2 : IntKind.i64.wrap ((k : Int) + (d : Int) + 1 + 1) = (k : Int) + (d : Int) + 1 + 1 := by rw [IntKind.wrap_i64]; omega
  have w3 : (k : Int) + (d : Int) + 1 + 1 - (k : Int) = (d : Int) + 2 := by omega
  go_enter Tryz.func48, Tryz.ntmps48
  have hE1 : ∀ y, ((w.alloc (.cells ROW 38)).drew).cell? y = W0.cell? y := fun y => by rw [HW0.out]; rfl
  have hE2 : ∀ y, ((w.alloc (.cells ROW 38)).drew).frozen? y = W0.frozen? y := fun y => by rw [HW0.out]; rfl
  have hF0 : ((w.alloc (.cells ROW 38)).drew.setCells w.heap.size (k * 3) [x 0, x 1, x 2]).drew = W1 := by rw [HW1.out, HW0.out]; rfl
  have HE := hide hE1
  have HE' := hide hE2
  have HF0 := hide hF0
  have HC1 := hide hcp1
  have HC2 := hide hcp2
  clear hE1 hE2 hF0 hcp1 hcp2 hrz
  have hcpA : ∀ ty, (Builtin.copy_ #[27, 27] ty #[.slice (some ⟨w.heap.size, k * 3, none⟩) (k + d + 2 - k) (G - k), .slice (some ⟨vb, 0, none⟩) 1 1]).run Tryz.prog ((w.alloc (.cells ROW 38)).drew) = .ok (goInt (Nat.min 1 (d + 2))) ((w.alloc (.cells ROW 38)).drew.setCells w.heap.size (k * 3) [x 0, x 1, x 2]) := fun ty => HC1.out _ HE.out HE'.out ty _ _ (by omega)
  go_wp2_with (at_builtin; refine Lib.wpList_append_run _ rfl _ _ _ _ rfl _ _ rfl rfl _ _ (HRZ.out _) ?_)
  clear hcpA
  go_region_law (refine step_copy_at rfl _ _ 27 27 rfl (.slice (some ⟨w.heap.size, (k + 1) * 3, none⟩) (k + d + 2 - (k + 1)) (G - (k + 1))) (.slice (some ⟨γ, k * 3, none⟩) (k + d + 1 - k) (cap - k)) (by simp [Act.eval, Act.put]) (by simp [Act.eval, Act.put]) (HC2.out _ (fun _ => by rw [← HF0.out]) (fun _ => by rw [← HF0.out]) _ _ _ _ _ (by omega) (by omega)) ?_)
  rw [HF0.out, ← HW2.out]
  go_wp2_with fail
  go_ret
  exact ⟨G, rfl, HF.out, hBel.out⟩
theorem rowL_snoc3 (c : Nat → Nat → Value) (x : Nat → Value) (n : Nat) : rowL c 3 n ++ [x 0, x 1, x 2] = rowL (insC n c x) 3 (n + 1) := by
  rw [rowL]
  congr 1
  · refine rowL_congr fun i j hi _ => ?_
    simp only [insC, hi, if_true]
  · simp [List.range, List.range.loop, insC]
theorem x3_one {x : Nat → Value} (hx1 : ∀ j, j < 3 → (x j).oneCell' = true) {u : Value} (h : u ∈ [x 0, x 1, x 2]) : u.oneCell' = true := by
  simp at h
  rcases h with rfl | rfl | rfl
  · exact hx1 0 (by omega)
  · exact hx1 1 (by omega)
  · exact hx1 2 (by omega)
set_option maxRecDepth 100000 in
set_option maxHeartbeats 3200000 in
theorem InsertPer_end (c : Nat → Nat → Value) (x : Nat → Value) (n vb base : Nat) (v : Value) (w : World) (h : w.ownsRow base 38 3 v n (rowL c 3 n)) (hn : n ≤ 12)
    (hvb : w.heap[vb]? = some (.cells #[x 0, x 1, x 2] 38 (0, 0))) (hx1 : ∀ j, j < 3 → (x j).oneCell' = true) :
    Calls Tryz.prog 48 #[v, .int .i64 n, .slice (some ⟨vb, 0, none⟩) 1 1] w fun e w' => ∃ v', e = .returned v' ∧ ((v'.ownBlock = v.ownBlock ∧ w'.ownsRow base 38 3 v' (n + 1) (rowL (insC n c x) 3 (n + 1)) ∧ w.grownBy w' v.ownBlock) ∨ (w'.ownsRow w.heap.size 38 3 v' (n + 1) (rowL (insC n c x) 3 (n + 1)) ∧ w.grownBy w' none)) := by
  obtain ⟨ii, hii, iz0, iz1, iz2⟩ := info_parts infoPerI
  have hcv : ∀ j u, [x 0, x 1, x 2][j]? = some u → w.cell? ((⟨vb, 0, none⟩ : Addr).add j) = some u := fun j u hu => by
    rw [Addr.add_lit, Nat.zero_add]
    simp only [World.cell?, hvb]
    match j, hu with
    | 0, hu => simpa using hu
    | 1, hu => simpa using hu
    | 2, hu => simpa using hu
  have HV := hide hcv
  have HH := hide h
  have hform : v = .slice none 0 0 ∧ n = 0 ∨ ∃ g cap, v = .slice (some ⟨g, 0, none⟩) n cap ∧ n ≤ cap := by
    rcases h.2 with h1 | ⟨g, cap, cur, h1, _, _, h2, _⟩
    · exact .inl h1
    · exact .inr ⟨g, cap, h1, h2⟩
  clear hcv h
  rcases hform with ⟨rfl, rfl⟩ | ⟨g, cap, rfl, hcap⟩
  · go_enter Tryz.func48, Tryz.ntmps48
    go_wp2_with (at_builtin; refine wpList_append_two _ rfl _ _ 27 rfl base 38 ii (.agg #[.string ⟨#[]⟩, .int .i64 0, .int .i64 0]) 3 32 Tryz.underlying27 hii iz0 iz1 iz2 rfl (by decide) _ _ _ rfl HH.out ⟨vb, 0, none⟩ 1 1 [x 0, x 1, x 2] rfl rfl HV.out (fun u hu => x3_one hx1 hu) (by omega) (by unfold maxLen; omega) (by omega) ?_)
    intro v4 w4 hcase
    rw [rowL_snoc3] at hcase
    have hf : ∃ A c, v4 = .slice A 1 c := by
      rcases hcase with ⟨_, r, _⟩ | ⟨r, _⟩ <;> exact row_form r
    obtain ⟨A, c4, rfl⟩ := hf
    have HC := hide hcase
    clear hcase
    go_wp2_with fail
    go_ret
    exact ⟨_, rfl, HC.out⟩
  · go_enter Tryz.func48, Tryz.ntmps48
    go_wp2_with (at_builtin; refine wpList_append_two _ rfl _ _ 27 rfl base 38 ii (.agg #[.string ⟨#[]⟩, .int .i64 0, .int .i64 0]) 3 32 Tryz.underlying27 hii iz0 iz1 iz2 rfl (by decide) _ _ _ rfl HH.out ⟨vb, 0, none⟩ 1 1 [x 0, x 1, x 2] rfl rfl HV.out (fun u hu => x3_one hx1 hu) (by omega) (by unfold maxLen; omega) (by omega) ?_)
    all_goals
      intro v4 w4 hcase
      rw [rowL_snoc3] at hcase
      have hf : ∃ A c, v4 = .slice A (n + 1) c := by
        rcases hcase with ⟨_, r, _⟩ | ⟨r, _⟩ <;> exact row_form r
      obtain ⟨A, c4, rfl⟩ := hf
      have HC := hide hcase
      clear hcase
      go_wp2_with fail
      go_ret
      exact ⟨_, rfl, HC.out⟩
/-- At whatever place. -/
theorem InsertPer_any (c : Nat → Nat → Value) (x : Nat → Value) (k n vb base : Nat) (v : Value) (w : World) (h : w.ownsRow base 38 3 v n (rowL c 3 n)) (hn : n ≤ 12) (hk : k ≤ n) (hbase : base ≤ w.heap.size)
    (hvb : w.heap[vb]? = some (.cells #[x 0, x 1, x 2] 38 (0, 0))) (hne : ∀ g, v.ownBlock = some g → vb ≠ g) (hc1 : ∀ i j, i < n → j < 3 → (c i j).oneCell' = true) (hx1 : ∀ j, j < 3 → (x j).oneCell' = true) :
    Calls Tryz.prog 48 #[v, .int .i64 k, .slice (some ⟨vb, 0, none⟩) 1 1] w fun e w' => ∃ v' g', e = .returned v' ∧ OwnL w' g' (g' + 1) 38 3 v' (n + 1) ((n + 1) * 3) (fun o => insC k c x (o / 3) (o % 3)) ∧ base ≤ g' ∧ g' < w'.heap.size ∧ (∀ b, b < w.heap.size → v.ownBlock ≠ some b → w'.heap[b]? = w.heap[b]?) ∧ Below base w w' := by
  by_cases hkn : k = n
  · subst hkn
    refine (InsertPer_end c x k vb base v w h hn hvb hx1).mono ?_
    rintro e w' ⟨v', rfl, hcase⟩
    have key : ∀ {b0 : Nat}, w'.ownsRow b0 38 3 v' (k + 1) (rowL (insC k c x) 3 (k + 1)) → ∃ g', b0 ≤ g' ∧ g' < w'.heap.size ∧ OwnL w' g' (g' + 1) 38 3 v' (k + 1) ((k + 1) * 3) (fun o => insC k c x (o / 3) (o % 3)) := fun {b0} r => by
      rcases r.2 with ⟨_, h0⟩ | ⟨g, cap, cur, rfl, _⟩
      · omega
      · have hlt := r.lt g rfl
        exact ⟨g, hlt.1, hlt.2, row_at r (by omega) rfl⟩
    rcases hcase with ⟨r0, r1, r2⟩ | ⟨r1, r2⟩
    · obtain ⟨g', q1, q2, q3⟩ := key r1
      refine ⟨v', g', rfl, q3, q1, q2, fun b hb hnb => r2.block b hb (fun e => hnb e.symm), ?_⟩
      exact (Below.refl _ _).grown r2 hbase (fun g hg => (h.lt g hg).1)
    · obtain ⟨g', q1, q2, q3⟩ := key r1
      refine ⟨v', g', rfl, q3, by omega, q2, fun b hb _ => r2.block b hb (fun e => by cases e), ?_⟩
      exact (Below.refl _ _).grown r2 hbase (fun g hg => by cases hg)
  · obtain ⟨d, rfl⟩ : ∃ d, n = k + d + 1 := ⟨n - 1 - k, by omega⟩
    rcases h.2 with ⟨_, h0⟩ | ⟨γ, cap, cur, rfl, _⟩
    · omega
    have hl := row_at h (by omega) (g := γ) rfl
    have hlt := h.lt γ rfl
    by_cases hroom : k + d + 2 ≤ cap
    · refine (InsertPer_shift c x k d γ vb cap w hl (by omega) hlt.2 hroom hvb (hne γ rfl) hc1 hx1).mono ?_
      rintro e w' ⟨rfl, h1, h2⟩
      have hz := h2.size
      exact ⟨_, γ, rfl, h1, hlt.1, by omega, fun b hb hnb => h2.block b hb (by have : b ≠ γ := fun e => hnb (by rw [e]; rfl); omega), h2.below hlt.1 hbase⟩
    · refine (InsertPer_grow c x k d γ vb cap w hl (by omega) hlt.2 (by omega) hvb hc1 hx1).mono ?_
      rintro e w' ⟨G, rfl, h1, h2, h3⟩
      exact ⟨_, w.heap.size, rfl, h1, hbase, h3, fun b hb _ => h2.block b hb, h2.mono hbase⟩

end Go.Proofs.YtnmmkechkcfjnaaGreatDoor
