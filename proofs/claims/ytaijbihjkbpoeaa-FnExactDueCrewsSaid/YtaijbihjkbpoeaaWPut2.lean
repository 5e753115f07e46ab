/-
  Walks: the reference puts a text into no list; into any.
-/
import Derived.Test.YtaijbihjkbpoeaaWPut
import Derived.Test.YtaijbihjkbpoeaaWJoin0
namespace Go.Proofs.Ytaijbihjkbpoeaa
set_option linter.unusedVariables false
set_option linter.unusedSimpArgs false
open Go.RowKit Go.Sort

set_option maxRecDepth 100000 in
set_option maxHeartbeats 6400000 in
theorem rfPut_nil (s : ByteArray) (base : Nat) (w : World) (hb0 : base ≤ w.heap.size) :
    Calls Try.prog 50 #[.slice none 0 0, .string s] w fun e w' => ∃ v', e = .returned v' ∧ TRow w' base v' (putL s.toList []) ∧ Below w.heap.size w w' := by
  obtain ⟨ii, hii, iz0, iz1, iz2⟩ := info_parts infoStrP
  go_enter Try.func50, Try.ntmps50
  go_wp2_with fail
  go_loopw [5] (fun i wr => i = .int .i64 0 ∧ Below w.heap.size w wr) (fun i _ => 0)
  case atStart => exact ⟨rfl, Below.refl _ _⟩
  case round =>
    obtain ⟨rfl, hb⟩ := hrel
    have hzr := hb.size
    have HFIN : Hid (∀ (A : Option Addr) (c : Nat) (W : World), W.ownsRow wr.heap.size 9 1 (.slice A 1 c) 1 [.string s] → Below wr.heap.size wr.drew W → ∃ v', Ending.returned (.slice A 1 c) = .returned v' ∧ TRow W base v' (putL s.toList []) ∧ Below w.heap.size w W) := fun A c W h hW => by
      have hs : Value.string s = encStr s.toList := by
        show Value.string s = .string ⟨s.toList.toArray⟩
        rw [ByteArray.toList_eq]
      refine ⟨_, rfl, ?_, (Below.drew hb).trans (hW.mono hzr)⟩
      rw [hs] at h
      exact h.mono (by omega)
    go_wp2_with fail
    refine wp_region_tree (.step 1 true (.step 2 true (.step 3 true (.step 5 true (.step 8 true (.step 9 true (.step 10 true (.fork 0 (.fork 4 (.step 6 false (.step 7 false (.step 11 false (.step 12 true .nil)))) 6 (.step 4 false (.step 7 false (.step 11 false (.step 12 true .nil))))) 6 (.step 0 false (.step 4 false (.step 7 false (.step 11 false (.step 12 true .nil))))))))))))) (fun w' => Below wr.heap.size wr.drew w') (by kernel_rfl) (by kernel_rfl) (by kernel_rfl) (by kernel_rfl) (Below.refl _ _) ?_
    refine tree_look _ _ rfl rfl (fun w' _ => BigFrame.run_move _ rfl w') ?_
    go_simp
    refine tree_look _ _ rfl rfl (fun w' _ => BigFrame.run_move _ rfl w') ?_
    go_simp
    refine tree_look _ (.slice none 0 0) rfl rfl (fun w' _ => (by go_simp; try (intro h; omega))) ?_
    go_simp
    refine tree_look _ _ rfl rfl (fun w' _ => BigFrame.run_move _ rfl w') ?_
    go_simp
    refine tree_look _ _ rfl rfl (fun w' _ => BigFrame.run_move _ rfl w') ?_
    go_simp
    refine tree_look _ _ rfl rfl (fun w' _ => BigFrame.run_move _ rfl w') ?_
    go_simp
    refine tree_look _ (.slice none 0 0) rfl rfl (fun w' _ => (by go_simp)) ?_
    go_simp
    refine wpMT_fork ?_ ?_
    · have r1 : (wr.drew.alloc (.cells #[] 9)).ownsRow wr.heap.size 9 1 (.slice (some ⟨wr.heap.size, 0, none⟩) 0 0) 0 [] := by simpa using World.ownsRow_made wr.drew (base := wr.heap.size) (e := 9) (size := 1) #[] 0 (by simp) (Nat.zero_le _) rfl
      refine tree_value _ (.slice (some ⟨wr.heap.size, 0, none⟩) 0 0) (wr.drew.alloc (.cells #[] 9)) rfl rfl (by go_simp) ((Below.refl wr.heap.size wr.drew).alloc (by simp) _) ?_
      go_simp
      have hb1 : Below wr.heap.size wr.drew (wr.drew.alloc (.cells #[] 9)) := ((Below.refl wr.heap.size wr.drew).alloc (by simp) _)
      refine wpMT_fork ?_ ?_
      · obtain ⟨v2, w2, q2, r2, g2⟩ := run_append_rows (P := Try.prog) (wr.drew.alloc (.cells #[] 9)) wr.heap.size wr.heap.size 22 22 9 ii (.string ⟨#[]⟩) 1 16 Try.underlying22 hii iz0 iz1 iz2 rfl (by decide) _ _ _ _ _ _ r1 (World.ownsRow_nil _ _ _ _) (by simp) (by unfold maxLen; omega) (by omega) (by have := hb1.size; simp at this ⊢; try omega)
        have hb2 : Below wr.heap.size wr.drew w2 := hb1.grown g2 (by have := hb1.size; simp at this ⊢; try omega) (fun x hx => (r1.lt x hx).1)
        refine tree_value _ v2 w2 rfl rfl (run_op_append _ _ 22 rfl rfl rfl q2) hb2 ?_
        obtain ⟨A2, c2, rfl⟩ := row_form r2
        go_simp
        simp only [Nat.zero_add, Nat.add_zero, List.nil_append, List.append_nil] at r2
        refine wpMT_eff ?_
        refine tree_value _ (.slice (some ⟨w2.heap.size, 0, none⟩) 1 1) (w2.alloc (.cells #[.string s] 9)) rfl rfl (by go_simp) (hb2.alloc (by have := hb2.size; simp at this ⊢; try omega) _) ?_
        go_simp
        have hb3 : Below wr.heap.size wr.drew (w2.alloc (.cells #[.string s] 9)) := hb2.alloc (by have := hb2.size; simp at this ⊢; try omega) _
        have d3 : (w2.alloc (.cells #[.string s] 9)).cell? ⟨w2.heap.size, 0, none⟩ = some (.string s) := by simp [go_sem]
        have r3 := r2.alloc (.cells #[.string s] 9)
        refine wpMT_eff ?_
        obtain ⟨v4, w4, q4, r4, g4, _⟩ := run_append_own (P := Try.prog) (w2.alloc (.cells #[.string s] 9)) wr.heap.size 22 22 9 ii (.string ⟨#[]⟩) 1 16 Try.underlying22 hii iz0 iz1 iz2 rfl (by decide) _ _ _ r3 ⟨w2.heap.size, 0, none⟩ 1 1 [.string s] rfl (by intro j u hu; match j, hu with | 0, hu => (simp at hu; subst hu; exact d3)) (by intro u hu; simp at hu; subst hu; rfl) (by unfold maxLen; omega) (by omega) (by have := hb3.size; simp at this ⊢; try omega)
        have hb4 : Below wr.heap.size wr.drew w4 := hb3.grown g4 (by have := hb3.size; simp at this ⊢; try omega) (fun x hx => (r3.lt x hx).1)
        refine tree_value _ v4 w4 rfl rfl (run_op_append _ _ 22 rfl rfl rfl q4) hb4 ?_
        obtain ⟨A4, c4, rfl⟩ := row_form r4
        go_simp
        refine wpMT_eff ?_
        obtain ⟨v5, w5, q5, r5, g5⟩ := run_append_rows (P := Try.prog) w4 wr.heap.size wr.heap.size 22 22 9 ii (.string ⟨#[]⟩) 1 16 Try.underlying22 hii iz0 iz1 iz2 rfl (by decide) _ _ _ _ _ _ r4 (World.ownsRow_nil _ _ _ _) (by simp) (by unfold maxLen; omega) (by omega) (by have := hb4.size; simp at this ⊢; try omega)
        have hb5 : Below wr.heap.size wr.drew w5 := hb4.grown g5 (by have := hb4.size; simp at this ⊢; try omega) (fun x hx => (r4.lt x hx).1)
        refine tree_value _ v5 w5 rfl rfl (run_op_append _ _ 22 rfl rfl rfl q5) hb5 ?_
        obtain ⟨A5, c5, rfl⟩ := row_form r5
        go_simp
        refine tree_look _ _ rfl rfl (fun w' _ => BigFrame.run_assign _ rfl w') ?_
        go_simp
        refine wpMT_nil ?_
        go_wp2_with fail
        go_ret
        simp only [Nat.zero_add, Nat.add_zero, List.nil_append, List.append_nil] at r5
        exact HFIN.out _ _ _ r5 hb5
      · refine tree_value _ (.slice (some ⟨wr.heap.size + 1, 0, none⟩) 1 1) ((wr.drew.alloc (.cells #[] 9)).alloc (.cells #[.string s] 9)) rfl rfl (by go_simp) (hb1.alloc (by have := hb1.size; simp at this ⊢; try omega) _) ?_
        go_simp
        have hb2 : Below wr.heap.size wr.drew ((wr.drew.alloc (.cells #[] 9)).alloc (.cells #[.string s] 9)) := hb1.alloc (by have := hb1.size; simp at this ⊢; try omega) _
        have d2 : ((wr.drew.alloc (.cells #[] 9)).alloc (.cells #[.string s] 9)).cell? ⟨wr.heap.size + 1, 0, none⟩ = some (.string s) := by simp [go_sem]
        have r2 := r1.alloc (.cells #[.string s] 9)
        refine wpMT_eff ?_
        obtain ⟨v3, w3, q3, r3, g3⟩ := run_append_rows (P := Try.prog) ((wr.drew.alloc (.cells #[] 9)).alloc (.cells #[.string s] 9)) wr.heap.size wr.heap.size 22 22 9 ii (.string ⟨#[]⟩) 1 16 Try.underlying22 hii iz0 iz1 iz2 rfl (by decide) _ _ _ _ _ _ r2 (World.ownsRow_nil _ _ _ _) (by simp) (by unfold maxLen; omega) (by omega) (by have := hb2.size; simp at this ⊢; try omega)
        have hb3 : Below wr.heap.size wr.drew w3 := hb2.grown g3 (by have := hb2.size; simp at this ⊢; try omega) (fun x hx => (r2.lt x hx).1)
        refine tree_value _ v3 w3 rfl rfl (run_op_append _ _ 22 rfl rfl rfl q3) hb3 ?_
        obtain ⟨A3, c3, rfl⟩ := row_form r3
        go_simp
        have d3 := g3.cell d2 (by simp [Value.ownBlock]; try omega)
        simp only [Nat.zero_add, Nat.add_zero, List.nil_append, List.append_nil] at r3
        refine wpMT_eff ?_
        obtain ⟨v4, w4, q4, r4, g4, _⟩ := run_append_own (P := Try.prog) w3 wr.heap.size 22 22 9 ii (.string ⟨#[]⟩) 1 16 Try.underlying22 hii iz0 iz1 iz2 rfl (by decide) _ _ _ r3 ⟨wr.heap.size + 1, 0, none⟩ 1 1 [.string s] rfl (by intro j u hu; match j, hu with | 0, hu => (simp at hu; subst hu; exact d3)) (by intro u hu; simp at hu; subst hu; rfl) (by unfold maxLen; omega) (by omega) (by have := hb3.size; simp at this ⊢; try omega)
        have hb4 : Below wr.heap.size wr.drew w4 := hb3.grown g4 (by have := hb3.size; simp at this ⊢; try omega) (fun x hx => (r3.lt x hx).1)
        refine tree_value _ v4 w4 rfl rfl (run_op_append _ _ 22 rfl rfl rfl q4) hb4 ?_
        obtain ⟨A4, c4, rfl⟩ := row_form r4
        go_simp
        refine wpMT_eff ?_
        obtain ⟨v5, w5, q5, r5, g5⟩ := run_append_rows (P := Try.prog) w4 wr.heap.size wr.heap.size 22 22 9 ii (.string ⟨#[]⟩) 1 16 Try.underlying22 hii iz0 iz1 iz2 rfl (by decide) _ _ _ _ _ _ r4 (World.ownsRow_nil _ _ _ _) (by simp) (by unfold maxLen; omega) (by omega) (by have := hb4.size; simp at this ⊢; try omega)
        have hb5 : Below wr.heap.size wr.drew w5 := hb4.grown g5 (by have := hb4.size; simp at this ⊢; try omega) (fun x hx => (r4.lt x hx).1)
        refine tree_value _ v5 w5 rfl rfl (run_op_append _ _ 22 rfl rfl rfl q5) hb5 ?_
        obtain ⟨A5, c5, rfl⟩ := row_form r5
        go_simp
        refine tree_look _ _ rfl rfl (fun w' _ => BigFrame.run_assign _ rfl w') ?_
        go_simp
        refine wpMT_nil ?_
        go_wp2_with fail
        go_ret
        simp only [Nat.zero_add, Nat.add_zero, List.nil_append, List.append_nil] at r5
        exact HFIN.out _ _ _ r5 hb5
    · refine tree_value _ (.slice (some ⟨wr.heap.size, 0, none⟩) 1 1) (wr.drew.alloc (.cells #[.string s] 9)) rfl rfl (by go_simp) ((Below.refl wr.heap.size wr.drew).alloc (by have := (Below.refl wr.heap.size wr.drew).size; simp at this ⊢; try omega) _) ?_
      go_simp
      have hb1 : Below wr.heap.size wr.drew (wr.drew.alloc (.cells #[.string s] 9)) := (Below.refl wr.heap.size wr.drew).alloc (by have := (Below.refl wr.heap.size wr.drew).size; simp at this ⊢; try omega) _
      have d1 : (wr.drew.alloc (.cells #[.string s] 9)).cell? ⟨wr.heap.size, 0, none⟩ = some (.string s) := by simp [go_sem]
      refine wpMT_eff ?_
      have r2 : ((wr.drew.alloc (.cells #[.string s] 9)).alloc (.cells #[] 9)).ownsRow wr.heap.size 9 1 (.slice (some ⟨wr.heap.size + 1, 0, none⟩) 0 0) 0 [] := by simpa using World.ownsRow_made (wr.drew.alloc (.cells #[.string s] 9)) (base := wr.heap.size) (e := 9) (size := 1) #[] 0 (by simp) (Nat.zero_le _) rfl
      refine tree_value _ (.slice (some ⟨wr.heap.size + 1, 0, none⟩) 0 0) ((wr.drew.alloc (.cells #[.string s] 9)).alloc (.cells #[] 9)) rfl rfl (by go_simp) (hb1.alloc (by simp) _) ?_
      go_simp
      have hb2 : Below wr.heap.size wr.drew ((wr.drew.alloc (.cells #[.string s] 9)).alloc (.cells #[] 9)) := (hb1.alloc (by simp) _)
      have d2 := (World.cell?_alloc_lt (w := (wr.drew.alloc (.cells #[.string s] 9))) (.cells #[] 9) ⟨wr.heap.size, 0, none⟩ (by simp)).trans d1
      refine wpMT_eff ?_
      obtain ⟨v3, w3, q3, r3, g3⟩ := run_append_rows (P := Try.prog) ((wr.drew.alloc (.cells #[.string s] 9)).alloc (.cells #[] 9)) wr.heap.size wr.heap.size 22 22 9 ii (.string ⟨#[]⟩) 1 16 Try.underlying22 hii iz0 iz1 iz2 rfl (by decide) _ _ _ _ _ _ r2 (World.ownsRow_nil _ _ _ _) (by simp) (by unfold maxLen; omega) (by omega) (by have := hb2.size; simp at this ⊢; try omega)
      have hb3 : Below wr.heap.size wr.drew w3 := hb2.grown g3 (by have := hb2.size; simp at this ⊢; try omega) (fun x hx => (r2.lt x hx).1)
      refine tree_value _ v3 w3 rfl rfl (run_op_append _ _ 22 rfl rfl rfl q3) hb3 ?_
      obtain ⟨A3, c3, rfl⟩ := row_form r3
      go_simp
      have d3 := g3.cell d2 (by simp [Value.ownBlock]; try omega)
      simp only [Nat.zero_add, Nat.add_zero, List.nil_append, List.append_nil] at r3
      refine wpMT_eff ?_
      obtain ⟨v4, w4, q4, r4, g4, _⟩ := run_append_own (P := Try.prog) w3 wr.heap.size 22 22 9 ii (.string ⟨#[]⟩) 1 16 Try.underlying22 hii iz0 iz1 iz2 rfl (by decide) _ _ _ r3 ⟨wr.heap.size, 0, none⟩ 1 1 [.string s] rfl (by intro j u hu; match j, hu with | 0, hu => (simp at hu; subst hu; exact d3)) (by intro u hu; simp at hu; subst hu; rfl) (by unfold maxLen; omega) (by omega) (by have := hb3.size; simp at this ⊢; try omega)
      have hb4 : Below wr.heap.size wr.drew w4 := hb3.grown g4 (by have := hb3.size; simp at this ⊢; try omega) (fun x hx => (r3.lt x hx).1)
      refine tree_value _ v4 w4 rfl rfl (run_op_append _ _ 22 rfl rfl rfl q4) hb4 ?_
      obtain ⟨A4, c4, rfl⟩ := row_form r4
      go_simp
      refine wpMT_eff ?_
      obtain ⟨v5, w5, q5, r5, g5⟩ := run_append_rows (P := Try.prog) w4 wr.heap.size wr.heap.size 22 22 9 ii (.string ⟨#[]⟩) 1 16 Try.underlying22 hii iz0 iz1 iz2 rfl (by decide) _ _ _ _ _ _ r4 (World.ownsRow_nil _ _ _ _) (by simp) (by unfold maxLen; omega) (by omega) (by have := hb4.size; simp at this ⊢; try omega)
      have hb5 : Below wr.heap.size wr.drew w5 := hb4.grown g5 (by have := hb4.size; simp at this ⊢; try omega) (fun x hx => (r4.lt x hx).1)
      refine tree_value _ v5 w5 rfl rfl (run_op_append _ _ 22 rfl rfl rfl q5) hb5 ?_
      obtain ⟨A5, c5, rfl⟩ := row_form r5
      go_simp
      refine tree_look _ _ rfl rfl (fun w' _ => BigFrame.run_assign _ rfl w') ?_
      go_simp
      refine wpMT_nil ?_
      go_wp2_with fail
      go_ret
      simp only [Nat.zero_add, Nat.add_zero, List.nil_append, List.append_nil] at r5
      exact HFIN.out _ _ _ r5 hb5
theorem rfPut_any (l : List (List UInt8)) (s : ByteArray) (base : Nat) (v : Value) (w : World) (hv : TRow w base v l) (hb0 : base ≤ w.heap.size) (hl : l.length ≤ 64) :
    Calls Try.prog 50 #[v, .string s] w fun e w' => ∃ v', e = .returned v' ∧ TRow w' base v' (putL s.toList l) ∧ Below w.heap.size w w' := by
  rcases hv.2 with ⟨h0, h1⟩ | ⟨g, cap, cur, h0, _⟩
  · have hl0 : l = [] := List.eq_nil_of_length_eq_zero h1
    subst hl0
    subst h0
    exact rfPut_nil s base w hb0
  · subst h0
    exact rfPut_some l s base l.length g cap w rfl hv hb0 hl

end Go.Proofs.Ytaijbihjkbpoeaa
