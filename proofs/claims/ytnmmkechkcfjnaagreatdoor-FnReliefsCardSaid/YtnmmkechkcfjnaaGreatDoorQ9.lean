/-
  Texts of this proof, one behind the other (part 9).
-/
import Derived.Test.YtnmmkechkcfjnaaGreatDoorQ8
/-
  Walks: the reference puts a text into no list; into any.-/
namespace Go.Proofs.YtnmmkechkcfjnaaGreatDoor
set_option linter.unusedVariables false
set_option linter.unusedSimpArgs false
open Go.RowKit Go.Sort

set_option maxRecDepth 100000 in
set_option maxHeartbeats 6400000 in
theorem rfPut_nil (s : ByteArray) (base : Nat) (w : World) (hb0 : base ≤ w.heap.size) :
    Calls Tryz.prog 57 #[.slice none 0 0, .string s] w fun e w' => ∃ v', e = .returned v' ∧ TRow w' base v' (putL s.toList []) ∧ Below w.heap.size w w' := by
  obtain ⟨ii, hii, iz0, iz1, iz2⟩ := info_parts infoStrP
  go_enter Tryz.func57, Tryz.ntmps57
  go_wp2_with fail
  go_loopw [5] (fun i wr => i = .int .i64 0 ∧ Below w.heap.size w wr) (fun i _ => 0)
  case atStart => exact ⟨rfl, Below.refl _ _⟩
  case round =>
    obtain ⟨rfl, hb⟩ := hrel
    have hzr := hb.size
    have HFIN : Hid (∀ (A : Option Addr) (c : Nat) (W : World), W.ownsRow wr.heap.size 9 1 (.slice A 1 c) 1 [.string s] → Below wr.heap.size wr.drew W → ∃ v', Ending.returned (.slice A 1 c) = .returned v' ∧ TRow W base v' (putL s.toList []) ∧ Below w.heap.size w W) := fun A c W h hW => by
      have hs : Value.string s = encStr s.toList := by
        show Value.string s = .string ⟨s.toList.toArray⟩
        rw [ByteArray.toList_eq]
      refine ⟨_, rfl, ?_, (Below.drew hb).trans (hW.mono hzr)⟩
      rw [hs] at h
      exact h.mono (by omega)
    go_wp2_with fail
    refine wp_region_tree (.step 1 true (.step 2 true (.step 3 true (.step 5 true (.step 8 true (.step 9 true (.step 10 true (.fork 0 (.fork 4 (.step 6 false (.step 7 false (.step 11 false (.step 12 true .nil)))) 6 (.step 4 false (.step 7 false (.step 11 false (.step 12 true .nil))))) 6 (.step 0 false (.step 4 false (.step 7 false (.step 11 false (.step 12 true .nil))))))))))))) (fun w' => Below wr.heap.size wr.drew w') (by kernel_rfl) (by kernel_rfl) (by kernel_rfl) (by kernel_rfl) (Below.refl _ _) ?_
    refine tree_look _ _ rfl rfl (fun w' _ => BigFrame.run_move _ rfl w') ?_
    go_simp
    refine tree_look _ _ rfl rfl (fun w' _ => BigFrame.run_move _ rfl w') ?_
    go_simp
    refine tree_look _ (.slice none 0 0) rfl rfl (fun w' _ => (by go_simp; try (intro h; omega))) ?_
    go_simp
    refine tree_look _ _ rfl rfl (fun w' _ => BigFrame.run_move _ rfl w') ?_
    go_simp
    refine tree_look _ _ rfl rfl (fun w' _ => BigFrame.run_move _ rfl w') ?_
    go_simp
    refine tree_look _ _ rfl rfl (fun w' _ => BigFrame.run_move _ rfl w') ?_
    go_simp
    refine tree_look _ (.slice none 0 0) rfl rfl (fun w' _ => (by go_simp)) ?_
    go_simp
    refine wpMT_fork ?_ ?_
    · have r1 : (wr.drew.alloc (.cells #[] 9)).ownsRow wr.heap.size 9 1 (.slice (some ⟨wr.heap.size, 0, none⟩) 0 0) 0 [] := by simpa using World.ownsRow_made wr.drew (base := wr.heap.size) (e := 9) (size := 1) #[] 0 (by simp) (Nat.zero_le _) rfl
      refine tree_value _ (.slice (some ⟨wr.heap.size, 0, none⟩) 0 0) (wr.drew.alloc (.cells #[] 9)) rfl rfl (by go_simp) ((Below.refl wr.heap.size wr.drew).alloc (by simp) _) ?_
      go_simp
      have hb1 : Below wr.heap.size wr.drew (wr.drew.alloc (.cells #[] 9)) := ((Below.refl wr.heap.size wr.drew).alloc (by simp) _)
      refine wpMT_fork ?_ ?_
      · obtain ⟨v2, w2, q2, r2, g2⟩ := run_append_rows (P := Tryz.prog) (wr.drew.alloc (.cells #[] 9)) wr.heap.size wr.heap.size 24 24 9 ii (.string ⟨#[]⟩) 1 16 Tryz.underlying24 hii iz0 iz1 iz2 rfl (by decide) _ _ _ _ _ _ r1 (World.ownsRow_nil _ _ _ _) (by simp) (by unfold maxLen; omega) (by omega) (by have := hb1.size; simp at this ⊢; try omega)
        have hb2 : Below wr.heap.size wr.drew w2 := hb1.grown g2 (by have := hb1.size; simp at this ⊢; try omega) (fun x hx => (r1.lt x hx).1)
        refine tree_value _ v2 w2 rfl rfl (run_op_append _ _ 24 rfl rfl rfl q2) hb2 ?_
        obtain ⟨A2, c2, rfl⟩ := row_form r2
        go_simp
        simp only [Nat.zero_add, Nat.add_zero, List.nil_append, List.append_nil] at r2
        refine wpMT_eff ?_
        refine tree_value _ (.slice (some ⟨w2.heap.size, 0, none⟩) 1 1) (w2.alloc (.cells #[.string s] 9)) rfl rfl (by go_simp) (hb2.alloc (by have := hb2.size; simp at this ⊢; try omega) _) ?_
        go_simp
        have hb3 : Below wr.heap.size wr.drew (w2.alloc (.cells #[.string s] 9)) := hb2.alloc (by have := hb2.size; simp at this ⊢; try omega) _
        have d3 : (w2.alloc (.cells #[.string s] 9)).cell? ⟨w2.heap.size, 0, none⟩ = some (.string s) := by simp [go_sem]
        have r3 := r2.alloc (.cells #[.string s] 9)
        refine wpMT_eff ?_
        obtain ⟨v4, w4, q4, r4, g4, _⟩ := run_append_own (P := Tryz.prog) (w2.alloc (.cells #[.string s] 9)) wr.heap.size 24 24 9 ii (.string ⟨#[]⟩) 1 16 Tryz.underlying24 hii iz0 iz1 iz2 rfl (by decide) _ _ _ r3 ⟨w2.heap.size, 0, none⟩ 1 1 [.string s] rfl (by intro j u hu; match j, hu with | 0, hu => (simp at hu; subst hu; exact d3)) (by intro u hu; simp at hu; subst hu; rfl) (by unfold maxLen; omega) (by omega) (by have := hb3.size; simp at this ⊢; try omega)
        have hb4 : Below wr.heap.size wr.drew w4 := hb3.grown g4 (by have := hb3.size; simp at this ⊢; try omega) (fun x hx => (r3.lt x hx).1)
        refine tree_value _ v4 w4 rfl rfl (run_op_append _ _ 24 rfl rfl rfl q4) hb4 ?_
        obtain ⟨A4, c4, rfl⟩ := row_form r4
        go_simp
        refine wpMT_eff ?_
        obtain ⟨v5, w5, q5, r5, g5⟩ := run_append_rows (P := Tryz.prog) w4 wr.heap.size wr.heap.size 24 24 9 ii (.string ⟨#[]⟩) 1 16 Tryz.underlying24 hii iz0 iz1 iz2 rfl (by decide) _ _ _ _ _ _ r4 (World.ownsRow_nil _ _ _ _) (by simp) (by unfold maxLen; omega) (by omega) (by have := hb4.size; simp at this ⊢; try omega)
        have hb5 : Below wr.heap.size wr.drew w5 := hb4.grown g5 (by have := hb4.size; simp at this ⊢; try omega) (fun x hx => (r4.lt x hx).1)
        refine tree_value _ v5 w5 rfl rfl (run_op_append _ _ 24 rfl rfl rfl q5) hb5 ?_
        obtain ⟨A5, c5, rfl⟩ := row_form r5
        go_simp
        refine tree_look _ _ rfl rfl (fun w' _ => BigFrame.run_assign _ rfl w') ?_
        go_simp
        refine wpMT_nil ?_
        go_wp2_with fail
        go_ret
        simp only [Nat.zero_add, Nat.add_zero, List.nil_append, List.append_nil] at r5
        exact HFIN.out _ _ _ r5 hb5
      · refine tree_value _ (.slice (some ⟨wr.heap.size + 1, 0, none⟩) 1 1) ((wr.drew.alloc (.cells #[] 9)).alloc (.cells #[.string s] 9)) rfl rfl (by go_simp) (hb1.alloc (by have := hb1.size; simp at this ⊢; try omega) _) ?_
        go_simp
        have hb2 : Below wr.heap.size wr.drew ((wr.drew.alloc (.cells #[] 9)).alloc (.cells #[.string s] 9)) := hb1.alloc (by have := hb1.size; simp at this ⊢; try omega) _
        have d2 : ((wr.drew.alloc (.cells #[] 9)).alloc (.cells #[.string s] 9)).cell? ⟨wr.heap.size + 1, 0, none⟩ = some (.string s) := by simp [go_sem]
        have r2 := r1.alloc (.cells #[.string s] 9)
        refine wpMT_eff ?_
        obtain ⟨v3, w3, q3, r3, g3⟩ := run_append_rows (P := Tryz.prog) ((wr.drew.alloc (.cells #[] 9)).alloc (.cells #[.string s] 9)) wr.heap.size wr.heap.size 24 24 9 ii (.string ⟨#[]⟩) 1 16 Tryz.underlying24 hii iz0 iz1 iz2 rfl (by decide) _ _ _ _ _ _ r2 (World.ownsRow_nil _ _ _ _) (by simp) (by unfold maxLen; omega) (by omega) (by have := hb2.size; simp at this ⊢; try omega)
        have hb3 : Below wr.heap.size wr.drew w3 := hb2.grown g3 (by have := hb2.size; simp at this ⊢; try omega) (fun x hx => (r2.lt x hx).1)
        refine tree_value _ v3 w3 rfl rfl (run_op_append _ _ 24 rfl rfl rfl q3) hb3 ?_
        obtain ⟨A3, c3, rfl⟩ := row_form r3
        go_simp
        have d3 := g3.cell d2 (by simp [Value.ownBlock]; try omega)
        simp only [Nat.zero_add, Nat.add_zero, List.nil_append, List.append_nil] at r3
        refine wpMT_eff ?_
        obtain ⟨v4, w4, q4, r4, g4, _⟩ := run_append_own (P := Tryz.prog) w3 wr.heap.size 24 24 9 ii (.string ⟨#[]⟩) 1 16 Tryz.underlying24 hii iz0 iz1 iz2 rfl (by decide) _ _ _ r3 ⟨wr.heap.size + 1, 0, none⟩ 1 1 [.string s] rfl (by intro j u hu; match j, hu with | 0, hu => (simp at hu; subst hu; exact d3)) (by intro u hu; simp at hu; subst hu; rfl) (by unfold maxLen; omega) (by omega) (by have := hb3.size; simp at this ⊢; try omega)
        have hb4 : Below wr.heap.size wr.drew w4 := hb3.grown g4 (by have := hb3.size; simp at this ⊢; try omega) (fun x hx => (r3.lt x hx).1)
        refine tree_value _ v4 w4 rfl rfl (run_op_append _ _ 24 rfl rfl rfl q4) hb4 ?_
        obtain ⟨A4, c4, rfl⟩ := row_form r4
        go_simp
        refine wpMT_eff ?_
        obtain ⟨v5, w5, q5, r5, g5⟩ := run_append_rows (P := Tryz.prog) w4 wr.heap.size wr.heap.size 24 24 9 ii (.string ⟨#[]⟩) 1 16 Tryz.underlying24 hii iz0 iz1 iz2 rfl (by decide) _ _ _ _ _ _ r4 (World.ownsRow_nil _ _ _ _) (by simp) (by unfold maxLen; omega) (by omega) (by have := hb4.size; simp at this ⊢; try omega)
        have hb5 : Below wr.heap.size wr.drew w5 := hb4.grown g5 (by have := hb4.size; simp at this ⊢; try omega) (fun x hx => (r4.lt x hx).1)
        refine tree_value _ v5 w5 rfl rfl (run_op_append _ _ 24 rfl rfl rfl q5) hb5 ?_
        obtain ⟨A5, c5, rfl⟩ := row_form r5
        go_simp
        refine tree_look _ _ rfl rfl (fun w' _ => BigFrame.run_assign _ rfl w') ?_
        go_simp
        refine wpMT_nil ?_
        go_wp2_with fail
        go_ret
        simp only [Nat.zero_add, Nat.add_zero, List.nil_append, List.append_nil] at r5
        exact HFIN.out _ _ _ r5 hb5
    · refine tree_value _ (.slice (some ⟨wr.heap.size, 0, none⟩) 1 1) (wr.drew.alloc (.cells #[.string s] 9)) rfl rfl (by go_simp) ((Below.refl wr.heap.size wr.drew).alloc (by have := (Below.refl wr.heap.size wr.drew).size; simp at this ⊢; try omega) _) ?_
      go_simp
      have hb1 : Below wr.heap.size wr.drew (wr.drew.alloc (.cells #[.string s] 9)) := (Below.refl wr.heap.size wr.drew).alloc (by have := (Below.refl wr.heap.size wr.drew).size; simp at this ⊢; try omega) _
      have d1 : (wr.drew.alloc (.cells #[.string s] 9)).cell? ⟨wr.heap.size, 0, none⟩ = some (.string s) := by simp [go_sem]
      refine wpMT_eff ?_
      have r2 : ((wr.drew.alloc (.cells #[.string s] 9)).alloc (.cells #[] 9)).ownsRow wr.heap.size 9 1 (.slice (some ⟨wr.heap.size + 1, 0, none⟩) 0 0) 0 [] := by simpa using World.ownsRow_made (wr.drew.alloc (.cells #[.string s] 9)) (base := wr.heap.size) (e := 9) (size := 1) #[] 0 (by simp) (Nat.zero_le _) rfl
      refine tree_value _ (.slice (some ⟨wr.heap.size + 1, 0, none⟩) 0 0) ((wr.drew.alloc (.cells #[.string s] 9)).alloc (.cells #[] 9)) rfl rfl (by go_simp) (hb1.alloc (by simp) _) ?_
      go_simp
      have hb2 : Below wr.heap.size wr.drew ((wr.drew.alloc (.cells #[.string s] 9)).alloc (.cells #[] 9)) := (hb1.alloc (by simp) _)
      have d2 := (World.cell?_alloc_lt (w := (wr.drew.alloc (.cells #[.string s] 9))) (.cells #[] 9) ⟨wr.heap.size, 0, none⟩ (by simp)).trans d1
      refine wpMT_eff ?_
      obtain ⟨v3, w3, q3, r3, g3⟩ := run_append_rows (P := Tryz.prog) ((wr.drew.alloc (.cells #[.string s] 9)).alloc (.cells #[] 9)) wr.heap.size wr.heap.size 24 24 9 ii (.string ⟨#[]⟩) 1 16 Tryz.underlying24 hii iz0 iz1 iz2 rfl (by decide) _ _ _ _ _ _ r2 (World.ownsRow_nil _ _ _ _) (by simp) (by unfold maxLen; omega) (by omega) (by have := hb2.size; simp at this ⊢; try omega)
      have hb3 : Below wr.heap.size wr.drew w3 := hb2.grown g3 (by have := hb2.size; simp at this ⊢; try omega) (fun x hx => (r2.lt x hx).1)
      refine tree_value _ v3 w3 rfl rfl (run_op_append _ _ 24 rfl rfl rfl q3) hb3 ?_
      obtain ⟨A3, c3, rfl⟩ := row_form r3
      go_simp
      have d3 := g3.cell d2 (by simp [Value.ownBlock]; try omega)
      simp only [Nat.zero_add, Nat.add_zero, List.nil_append, List.append_nil] at r3
      refine wpMT_eff ?_
      obtain ⟨v4, w4, q4, r4, g4, _⟩ := run_append_own (P := Tryz.prog) w3 wr.heap.size 24 24 9 ii (.string ⟨#[]⟩) 1 16 Tryz.underlying24 hii iz0 iz1 iz2 rfl (by decide) _ _ _ r3 ⟨wr.heap.size, 0, none⟩ 1 1 [.string s] rfl (by intro j u hu; match j, hu with | 0, hu => (simp at hu; subst hu; exact d3)) (by intro u hu; simp at hu; subst hu; rfl) (by unfold maxLen; omega) (by omega) (by have := hb3.size; simp at this ⊢; try omega)
      have hb4 : Below wr.heap.size wr.drew w4 := hb3.grown g4 (by have := hb3.size; simp at this ⊢; try omega) (fun x hx => (r3.lt x hx).1)
      refine tree_value _ v4 w4 rfl rfl (run_op_append _ _ 24 rfl rfl rfl q4) hb4 ?_
      obtain ⟨A4, c4, rfl⟩ := row_form r4
      go_simp
      refine wpMT_eff ?_
      obtain ⟨v5, w5, q5, r5, g5⟩ := run_append_rows (P := Tryz.prog) w4 wr.heap.size wr.heap.size 24 24 9 ii (.string ⟨#[]⟩) 1 16 Tryz.underlying24 hii iz0 iz1 iz2 rfl (by decide) _ _ _ _ _ _ r4 (World.ownsRow_nil _ _ _ _) (by simp) (by unfold maxLen; omega) (by omega) (by have := hb4.size; simp at this ⊢; try omega)
      have hb5 : Below wr.heap.size wr.drew w5 := hb4.grown g5 (by have := hb4.size; simp at this ⊢; try omega) (fun x hx => (r4.lt x hx).1)
      refine tree_value _ v5 w5 rfl rfl (run_op_append _ _ 24 rfl rfl rfl q5) hb5 ?_
      obtain ⟨A5, c5, rfl⟩ := row_form r5
      go_simp
      refine tree_look _ _ rfl rfl (fun w' _ => BigFrame.run_assign _ rfl w') ?_
      go_simp
      refine wpMT_nil ?_
      go_wp2_with fail
      go_ret
      simp only [Nat.zero_add, Nat.add_zero, List.nil_append, List.append_nil] at r5
      exact HFIN.out _ _ _ r5 hb5
theorem rfPut_any (l : List (List UInt8)) (s : ByteArray) (base : Nat) (v : Value) (w : World) (hv : TRow w base v l) (hb0 : base ≤ w.heap.size) (hl : l.length ≤ 64) :
    Calls Tryz.prog 57 #[v, .string s] w fun e w' => ∃ v', e = .returned v' ∧ TRow w' base v' (putL s.toList l) ∧ Below w.heap.size w w' := by
  rcases hv.2 with ⟨h0, h1⟩ | ⟨g, cap, cur, h0, _⟩
  · have hl0 : l = [] := List.eq_nil_of_length_eq_zero h1
    subst hl0
    subst h0
    exact rfPut_nil s base w hb0
  · subst h0
    exact rfPut_some l s base l.length g cap w rfl hv hb0 hl

end Go.Proofs.YtnmmkechkcfjnaaGreatDoor

/-
  How much of a budget a list of texts takes.-/
namespace Go.Proofs.YtnmmkechkcfjnaaGreatDoor
set_option linter.unusedVariables false
set_option linter.unusedSimpArgs false
open Go.RowKit

def sz1F (left : Int) (a : Nat) : Int := if left < a then -1 else left - a
def szP (left : Int) (a : Nat → Nat) : Nat → Int
  | 0 => left
  | k + 1 => if szP left a k < 0 then -1 else sz1F (szP left a k) (a k)
def szPF (left : Int) (c : Nat → ByteArray) (n : Nat) : Int := if left < n then -1 else szP (left - n) (fun i => (c i).size) n
theorem szP_le {left : Int} {a : Nat → Nat} (h : 0 ≤ left) : ∀ k, -1 ≤ szP left a k ∧ szP left a k ≤ left
  | 0 => by simp only [szP]; omega
  | k + 1 => by
    have := szP_le (a := a) h k
    simp only [szP, sz1F]
    split
    · omega
    · split <;> omega
theorem szP_neg {left : Int} {a : Nat → Nat} {k n : Nat} (h : szP left a k < 0) (hk : k < n) : szP left a n = -1 := by
  induction n with
  | zero => omega
  | succ n ih =>
    simp only [szP]
    rcases Nat.lt_or_ge k n with h1 | h1
    · rw [ih h1]; rfl
    · obtain rfl : k = n := by omega
      rw [if_pos h]
theorem szPF_n {left : Int} {c : Nat → ByteArray} {n : Nat} (h : 0 ≤ szPF left c n) : (n : Int) ≤ left := by
  unfold szPF at h
  split at h <;> omega

end Go.Proofs.YtnmmkechkcfjnaaGreatDoor

/-
  Walks: how much of a budget periods take; the exported checks.-/
namespace Go.Proofs.YtnmmkechkcfjnaaGreatDoor
set_option linter.unusedVariables false
set_option linter.unusedSimpArgs false
open Go.RowKit

def askP (c : Nat → ByteArray) (a b : Nat → Int) (n : Nat) (s : ByteArray) (m : Int) : Bool := pdB c a b n && nameB s && inB m 0 9999
set_option maxHeartbeats 800000 in
theorem ArePeriods_impl (c : Nat → ByteArray) (a b : Nat → Int) (n lo hi : Nat) (v : Value) (w : World) (hv : Sl w lo hi 3 v n (siiC c a b)) (hhi : hi ≤ w.heap.size) (hf : pfits c n) :
    Calls Tryz.prog 12 #[v] w fun e w' => e = .returned (.bool (pdB c a b n)) ∧ Below w.heap.size w w' := by
  go_enter Tryz.func12, Tryz.ntmps12
  go_wp2_with (go_at_call 41; refine (arePeriods_any c a b n lo hi _ _ hv hhi hf).mono ?_; rintro e w1 ⟨rfl, hb1⟩; have hz1 := hb1.size; (try (simp at hz1)); obtain ⟨hcw1, hfw1⟩ := bcell hb1; (try (have hy1 : w.heap.size < w1.heap.size := by omega)); (try (have hyy1 : w.heap.size + 1 < w1.heap.size := by omega)); (try (have hyyy1 : w.heap.size + 1 + 1 < w1.heap.size := by omega)))
  go_ret
  exact ⟨rfl, (by repeat (first | (with_reducible exact Below.refl _ _) | (with_reducible refine below_ov ?_ ?_) | (with_reducible refine Below.setCell ?_ ?_ _) | (with_reducible refine Below.alloc ?_ ?_ _) | (with_reducible refine Below.drew ?_) | (with_reducible refine below_drewN ?_ _) | (refine Below.trans ?_ (Below.mono ‹Below _ _ _› (by first | omega | (simp; done) | (simp; omega)))) | exact Below.refl _ _ | omega | (focus (simp; done)) | (focus (simp; omega))))⟩
set_option maxHeartbeats 800000 in
theorem rfAsked_any (c : Nat → ByteArray) (a b : Nat → Int) (n : Nat) (s : ByteArray) (m : Int) (lo hi : Nat) (v : Value) (w : World) (hv : Sl w lo hi 3 v n (siiC c a b)) (hhi : hi ≤ w.heap.size) (hf : pfits c n) (hs : s.size ≤ maxLen) :
    Calls Tryz.prog 58 #[v, .string s, .int .i64 m] w fun e w' => e = .returned (.bool (askP c a b n s m)) ∧ Below w.heap.size w w' := by
  cases hc1_0 : pdB c a b n with
  | false =>
    go_enter Tryz.func58, Tryz.ntmps58
    go_wp2_with (first | (go_at_call 50; refine (rfGood_any c a b n lo hi _ _ hv hhi hf).mono ?_; rintro e w1 ⟨rfl, hb1⟩; have hz1 := hb1.size; (try (simp at hz1)); obtain ⟨hcw1, hfw1⟩ := bcell hb1; (try (have hy1 : w.heap.size < w1.heap.size := by omega)); (try (have hyy1 : w.heap.size + 1 < w1.heap.size := by omega)); (try (have hyyy1 : w.heap.size + 1 + 1 < w1.heap.size := by omega))) | (go_at_call 38; refine (apName_any _ _ hs).mono ?_; rintro e w2 ⟨rfl, hd2⟩; obtain ⟨n2, rfl⟩ := hd2) | (go_at_call 55; refine (rfMinute_any _ _).mono ?_; rintro e w' ⟨rfl, rfl⟩))
    go_ret
    exact ⟨ret_bool (by simp [askP, *]), (by repeat (first | (with_reducible exact Below.refl _ _) | (with_reducible refine below_ov ?_ ?_) | (with_reducible refine Below.setCell ?_ ?_ _) | (with_reducible refine Below.alloc ?_ ?_ _) | (with_reducible refine Below.drew ?_) | (with_reducible refine below_drewN ?_ _) | (refine Below.trans ?_ (Below.mono ‹Below _ _ _› (by first | omega | (simp; done) | (simp; omega)))) | exact Below.refl _ _ | omega | (focus (simp; done)) | (focus (simp; omega))))⟩
  | true =>
    cases hc1_1 : nameB s with
    | false =>
      go_enter Tryz.func58, Tryz.ntmps58
      go_wp2_with (first | (go_at_call 50; refine (rfGood_any c a b n lo hi _ _ hv hhi hf).mono ?_; rintro e w1 ⟨rfl, hb1⟩; have hz1 := hb1.size; (try (simp at hz1)); obtain ⟨hcw1, hfw1⟩ := bcell hb1; (try (have hy1 : w.heap.size < w1.heap.size := by omega)); (try (have hyy1 : w.heap.size + 1 < w1.heap.size := by omega)); (try (have hyyy1 : w.heap.size + 1 + 1 < w1.heap.size := by omega))) | (go_at_call 38; refine (apName_any _ _ hs).mono ?_; rintro e w2 ⟨rfl, hd2⟩; obtain ⟨n2, rfl⟩ := hd2) | (go_at_call 55; refine (rfMinute_any _ _).mono ?_; rintro e w' ⟨rfl, rfl⟩))
      go_ret
      exact ⟨ret_bool (by simp [askP, *]), (by repeat (first | (with_reducible exact Below.refl _ _) | (with_reducible refine below_ov ?_ ?_) | (with_reducible refine Below.setCell ?_ ?_ _) | (with_reducible refine Below.alloc ?_ ?_ _) | (with_reducible refine Below.drew ?_) | (with_reducible refine below_drewN ?_ _) | (refine Below.trans ?_ (Below.mono ‹Below _ _ _› (by first | omega | (simp; done) | (simp; omega)))) | exact Below.refl _ _ | omega | (focus (simp; done)) | (focus (simp; omega))))⟩
    | true =>
      go_enter Tryz.func58, Tryz.ntmps58
      go_wp2_with (first | (go_at_call 50; refine (rfGood_any c a b n lo hi _ _ hv hhi hf).mono ?_; rintro e w1 ⟨rfl, hb1⟩; have hz1 := hb1.size; (try (simp at hz1)); obtain ⟨hcw1, hfw1⟩ := bcell hb1; (try (have hy1 : w.heap.size < w1.heap.size := by omega)); (try (have hyy1 : w.heap.size + 1 < w1.heap.size := by omega)); (try (have hyyy1 : w.heap.size + 1 + 1 < w1.heap.size := by omega))) | (go_at_call 38; refine (apName_any _ _ hs).mono ?_; rintro e w2 ⟨rfl, hd2⟩; obtain ⟨n2, rfl⟩ := hd2) | (go_at_call 55; refine (rfMinute_any _ _).mono ?_; rintro e w' ⟨rfl, rfl⟩))
      go_ret
      exact ⟨ret_bool (by simp [askP, *]), (by repeat (first | (with_reducible exact Below.refl _ _) | (with_reducible refine below_ov ?_ ?_) | (with_reducible refine Below.setCell ?_ ?_ _) | (with_reducible refine Below.alloc ?_ ?_ _) | (with_reducible refine Below.drew ?_) | (with_reducible refine below_drewN ?_ _) | (refine Below.trans ?_ (Below.mono ‹Below _ _ _› (by first | omega | (simp; done) | (simp; omega)))) | exact Below.refl _ _ | omega | (focus (simp; done)) | (focus (simp; omega))))⟩

end Go.Proofs.YtnmmkechkcfjnaaGreatDoor

/-
  Walks: how long a crew has worked, and rested.-/
namespace Go.Proofs.YtnmmkechkcfjnaaGreatDoor
set_option linter.unusedVariables false
set_option linter.unusedSimpArgs false
open Go.RowKit

/-- The minutes worked before a minute, in the first k periods. -/
def wkF (c : Nat → ByteArray) (a b : Nat → Int) (s : ByteArray) (m : Int) : Nat → Int
  | 0 => 0
  | k + 1 => if c k = s ∧ a k < m then wkF c a b s m k + (min (b k) m - a k) else wkF c a b s m k
theorem wk_yes {c : Nat → ByteArray} {a b : Nat → Int} {s : ByteArray} {m : Int} {k : Nat} (h : c k = s) (h' : a k < m) : wkF c a b s m (k + 1) = wkF c a b s m k + (min (b k) m - a k) := by rw [wkF, if_pos ⟨h, h'⟩]
theorem wk_no {c : Nat → ByteArray} {a b : Nat → Int} {s : ByteArray} {m : Int} {k : Nat} (h : ¬ (c k = s ∧ a k < m)) : wkF c a b s m (k + 1) = wkF c a b s m k := by rw [wkF, if_neg h]
theorem wk_bd {c : Nat → ByteArray} {a b : Nat → Int} {n : Nat} {s : ByteArray} {m : Int} (hp : pdB c a b n = true) (hm : 0 ≤ m) (hm' : m ≤ 9999) : ∀ k, k ≤ n → 0 ≤ wkF c a b s m k ∧ wkF c a b s m k ≤ 9999 * k
  | 0, _ => by simp [wkF]
  | k + 1, hk => by
    have ih := wk_bd (s := s) hp hm hm' k (by omega)
    have h0 := (perB_iff.1 ((pd_facts hp).2 k (by omega)).1).2
    by_cases h : c k = s ∧ a k < m
    · rw [wk_yes h.1 h.2]; omega
    · rw [wk_no h]; omega
def wkN (c : Nat → ByteArray) (a b : Nat → Int) (n : Nat) (s : ByteArray) (m : Int) : Int := if askP c a b n s m = true then wkF c a b s m n else 0
theorem ask_facts {c : Nat → ByteArray} {a b : Nat → Int} {n : Nat} {s : ByteArray} {m : Int} (h : askP c a b n s m = true) : pdB c a b n = true ∧ 0 ≤ m ∧ m ≤ 9999 := by
  simp only [askP, Bool.and_eq_true, inB_iff] at h
  exact ⟨h.1.1, h.2⟩

set_option maxRecDepth 100000 in
set_option maxHeartbeats 1600000 in
theorem WorkedBy_impl (c : Nat → ByteArray) (a b : Nat → Int) (n : Nat) (s : ByteArray) (m : Int) (lo hi : Nat) (v : Value) (w : World) (hv : Sl w lo hi 3 v n (siiC c a b)) (hhi : hi ≤ w.heap.size) (hf : pfits c n) (hs : s.size ≤ maxLen) :
    Calls Tryz.prog 19 #[v, .string s, .int .i64 m] w fun e w' => e = .returned (.tuple #[.int .i64 (wkN c a b n s m), .bool (askP c a b n s m)]) ∧ Below w.heap.size w w' := by
  obtain ⟨A, cap, rfl, hcap, hA⟩ := hv.open_
  have hn := hf.1
  cases hc1_0 : pdB c a b n with
  | false =>
    have HX : Hid (askP c a b n s m = false) := by show _ = _; simp [askP, *]
    go_enter Tryz.func19, Tryz.ntmps19
    go_wp2_with (first | (go_at_call 41; refine (arePeriods_any c a b n lo hi _ _ hv hhi hf).mono ?_; rintro e w1 ⟨rfl, hb1⟩; have hz1 := hb1.size; (try (simp at hz1)); obtain ⟨hcw1, hfw1⟩ := bcell hb1; (try (have hy1 : w.heap.size < w1.heap.size := by omega)); (try (have hyy1 : w.heap.size + 1 < w1.heap.size := by omega)); (try (have hyyy1 : w.heap.size + 1 + 1 < w1.heap.size := by omega))) | (go_at_call 33; refine (isName_any _ _ hs).mono ?_; rintro e w2 ⟨rfl, hd2⟩; obtain ⟨n2, rfl⟩ := hd2) | (go_at_call 31; refine (isMinute_any _ _).mono ?_; rintro e w' ⟨rfl, rfl⟩))
    go_ret2
    exact ⟨ret_ib (by rw [wkN, HX.out]; rfl) HX.out.symm, (by repeat (first | (with_reducible exact Below.refl _ _) | (with_reducible refine below_ov ?_ ?_) | (with_reducible refine Below.setCell ?_ ?_ _) | (with_reducible refine Below.alloc ?_ ?_ _) | (with_reducible refine Below.drew ?_) | (with_reducible refine below_drewN ?_ _) | (refine Below.trans ?_ (Below.mono ‹Below _ _ _› (by first | omega | (simp; done) | (simp; omega)))) | exact Below.refl _ _ | omega | (focus (simp; done)) | (focus (simp; omega))))⟩
  | true =>
    cases hc1_1 : nameB s with
    | false =>
      have HX : Hid (askP c a b n s m = false) := by show _ = _; simp [askP, *]
      go_enter Tryz.func19, Tryz.ntmps19
      go_wp2_with (first | (go_at_call 41; refine (arePeriods_any c a b n lo hi _ _ hv hhi hf).mono ?_; rintro e w1 ⟨rfl, hb1⟩; have hz1 := hb1.size; (try (simp at hz1)); obtain ⟨hcw1, hfw1⟩ := bcell hb1; (try (have hy1 : w.heap.size < w1.heap.size := by omega)); (try (have hyy1 : w.heap.size + 1 < w1.heap.size := by omega)); (try (have hyyy1 : w.heap.size + 1 + 1 < w1.heap.size := by omega))) | (go_at_call 33; refine (isName_any _ _ hs).mono ?_; rintro e w2 ⟨rfl, hd2⟩; obtain ⟨n2, rfl⟩ := hd2) | (go_at_call 31; refine (isMinute_any _ _).mono ?_; rintro e w' ⟨rfl, rfl⟩))
      go_ret2
      exact ⟨ret_ib (by rw [wkN, HX.out]; rfl) HX.out.symm, (by repeat (first | (with_reducible exact Below.refl _ _) | (with_reducible refine below_ov ?_ ?_) | (with_reducible refine Below.setCell ?_ ?_ _) | (with_reducible refine Below.alloc ?_ ?_ _) | (with_reducible refine Below.drew ?_) | (with_reducible refine below_drewN ?_ _) | (refine Below.trans ?_ (Below.mono ‹Below _ _ _› (by first | omega | (simp; done) | (simp; omega)))) | exact Below.refl _ _ | omega | (focus (simp; done)) | (focus (simp; omega))))⟩
    | true =>
      cases hc1_2 : inB m 0 9999 with
      | false =>
        have HX : Hid (askP c a b n s m = false) := by show _ = _; simp [askP, *]
        go_enter Tryz.func19, Tryz.ntmps19
        go_wp2_with (first | (go_at_call 41; refine (arePeriods_any c a b n lo hi _ _ hv hhi hf).mono ?_; rintro e w1 ⟨rfl, hb1⟩; have hz1 := hb1.size; (try (simp at hz1)); obtain ⟨hcw1, hfw1⟩ := bcell hb1; (try (have hy1 : w.heap.size < w1.heap.size := by omega)); (try (have hyy1 : w.heap.size + 1 < w1.heap.size := by omega)); (try (have hyyy1 : w.heap.size + 1 + 1 < w1.heap.size := by omega))) | (go_at_call 33; refine (isName_any _ _ hs).mono ?_; rintro e w2 ⟨rfl, hd2⟩; obtain ⟨n2, rfl⟩ := hd2) | (go_at_call 31; refine (isMinute_any _ _).mono ?_; rintro e w' ⟨rfl, rfl⟩))
        go_ret2
        exact ⟨ret_ib (by rw [wkN, HX.out]; rfl) HX.out.symm, (by repeat (first | (with_reducible exact Below.refl _ _) | (with_reducible refine below_ov ?_ ?_) | (with_reducible refine Below.setCell ?_ ?_ _) | (with_reducible refine Below.alloc ?_ ?_ _) | (with_reducible refine Below.drew ?_) | (with_reducible refine below_drewN ?_ _) | (refine Below.trans ?_ (Below.mono ‹Below _ _ _› (by first | omega | (simp; done) | (simp; omega)))) | exact Below.refl _ _ | omega | (focus (simp; done)) | (focus (simp; omega))))⟩
      | true =>
        obtain ⟨hc1_2l, hc1_2r⟩ := inB_iff.1 hc1_2
        have HX : Hid (askP c a b n s m = true) := by show _ = _; simp [askP, *]
        have HP := hide (ask_facts HX.out).1
        go_enter Tryz.func19, Tryz.ntmps19
        go_wp2_with (first | (go_at_call 41; refine (arePeriods_any c a b n lo hi _ _ hv hhi hf).mono ?_; rintro e w1 ⟨rfl, hb1⟩; have hz1 := hb1.size; (try (simp at hz1)); obtain ⟨hcw1, hfw1⟩ := bcell hb1; (try (have hy1 : w.heap.size < w1.heap.size := by omega)); (try (have hyy1 : w.heap.size + 1 < w1.heap.size := by omega)); (try (have hyyy1 : w.heap.size + 1 + 1 < w1.heap.size := by omega))) | (go_at_call 33; refine (isName_any _ _ hs).mono ?_; rintro e w2 ⟨rfl, hd2⟩; obtain ⟨n2, rfl⟩ := hd2) | (go_at_call 31; refine (isMinute_any _ _).mono ?_; rintro e w' ⟨rfl, rfl⟩))
        have hb0 : Below w.heap.size w (w1.drewN n2) := (by repeat (first | (with_reducible exact Below.refl _ _) | (with_reducible refine below_ov ?_ ?_) | (with_reducible refine Below.setCell ?_ ?_ _) | (with_reducible refine Below.alloc ?_ ?_ _) | (with_reducible refine Below.drew ?_) | (with_reducible refine below_drewN ?_ _) | (refine Below.trans ?_ (Below.mono ‹Below _ _ _› (by first | omega | (simp; done) | (simp; omega)))) | exact Below.refl _ _ | omega | (focus (simp; done)) | (focus (simp; omega))))
        go_loopw [8, 26] (fun x i wr => ∃ k : Nat, k ≤ n ∧ i = .int .i64 k ∧ x = .int .i64 (wkF c a b s m k) ∧ Below w.heap.size w wr) (fun _ i _ => n - (intOf i).toNat)
        case atStart => exact ⟨0, by omega, rfl, rfl, hb0⟩
        case round =>
          obtain ⟨k, hk, rfl, rfl, hb⟩ := hrel
          have hzr := hb.size
          have hw := wk_bd (s := s) (m := m) HP.out (by omega) (by omega) k hk
          by_cases hkn : k < n
          · obtain ⟨blk, off, rfl, h1, h2, h3⟩ := (hA.below hb (by omega)) (by omega)
            have c0 : wr.cell? ⟨blk, off + k * 3, none⟩ = some (.string (c k)) := h3 k 0 hkn (by omega)
            have c1 : wr.cell? ⟨blk, off + k * 3 + 1, none⟩ = some (.int .i64 (a k)) := h3 k 1 hkn (by omega)
            have c2 : wr.cell? ⟨blk, off + k * 3 + 2, none⟩ = some (.int .i64 (b k)) := h3 k 2 hkn (by omega)
            clear h3 hA
            have hpk := (perB_iff.1 ((pd_facts HP.out).2 k hkn).1).2
            cases e0 : ((c k).toList == s.toList) with
            | false =>
              have HG : Hid (wkF c a b s m (k + 1) = wkF c a b s m k) := wk_no fun h => by rw [str_beq, h.1] at e0; simp at e0
              go_wp2_with fail
              go_roundw
              case rel => exact ⟨k + 1, by omega, by go_num, by rw [HG.out], (by repeat (first | (with_reducible exact Below.refl _ _) | (with_reducible refine below_ov ?_ ?_) | (with_reducible refine Below.setCell ?_ ?_ _) | (with_reducible refine Below.alloc ?_ ?_ _) | (with_reducible refine Below.drew ?_) | (with_reducible refine below_drewN ?_ _) | (refine Below.trans ?_ (Below.mono ‹Below _ _ _› (by first | omega | (simp; done) | (simp; omega)))) | exact Below.refl _ _ | omega | (focus (simp; done)) | (focus (simp; omega))))⟩
              case measure => simp [intOf]; omega
            | true =>
              cases e1 : decide (a k < m) with
              | false =>
                have HG : Hid (wkF c a b s m (k + 1) = wkF c a b s m k) := wk_no fun h => of_decide_eq_false e1 h.2
                go_wp2_with fail
                go_roundw
                case rel => exact ⟨k + 1, by omega, by go_num, by rw [HG.out], (by repeat (first | (with_reducible exact Below.refl _ _) | (with_reducible refine below_ov ?_ ?_) | (with_reducible refine Below.setCell ?_ ?_ _) | (with_reducible refine Below.alloc ?_ ?_ _) | (with_reducible refine Below.drew ?_) | (with_reducible refine below_drewN ?_ _) | (refine Below.trans ?_ (Below.mono ‹Below _ _ _› (by first | omega | (simp; done) | (simp; omega)))) | exact Below.refl _ _ | omega | (focus (simp; done)) | (focus (simp; omega))))⟩
                case measure => simp [intOf]; omega
              | true =>
                have HG : Hid (wkF c a b s m (k + 1) = wkF c a b s m k + (min (b k) m - a k)) := wk_yes (by rw [str_beq] at e0; exact of_decide_eq_true e0) (of_decide_eq_true e1)
                go_wp2_with fail
                all_goals
                  go_roundw
                  case rel => exact ⟨k + 1, by omega, by go_num, by rw [HG.out]; congr 1; omega, (by repeat (first | (with_reducible exact Below.refl _ _) | (with_reducible refine below_ov ?_ ?_) | (with_reducible refine Below.setCell ?_ ?_ _) | (with_reducible refine Below.alloc ?_ ?_ _) | (with_reducible refine Below.drew ?_) | (with_reducible refine below_drewN ?_ _) | (refine Below.trans ?_ (Below.mono ‹Below _ _ _› (by first | omega | (simp; done) | (simp; omega)))) | exact Below.refl _ _ | omega | (focus (simp; done)) | (focus (simp; omega))))⟩
                  case measure => simp [intOf]; omega
          · obtain rfl : k = n := by omega
            go_wp2_with fail
            go_ret2
            exact ⟨ret_ib (by rw [wkN, HX.out]; rfl) HX.out.symm, hb⟩
set_option maxRecDepth 100000 in
set_option maxHeartbeats 1600000 in
theorem WorkedBy_spec (c : Nat → ByteArray) (a b : Nat → Int) (n : Nat) (s : ByteArray) (m : Int) (lo hi : Nat) (v : Value) (w : World) (hv : Sl w lo hi 3 v n (siiC c a b)) (hhi : hi ≤ w.heap.size) (hf : pfits c n) (hs : s.size ≤ maxLen) :
    Calls Tryz.prog 18 #[v, .string s, .int .i64 m] w fun e w' => e = .returned (.tuple #[.int .i64 (wkN c a b n s m), .bool (askP c a b n s m)]) ∧ Below w.heap.size w w' := by
  obtain ⟨A, cap, rfl, hcap, hA⟩ := hv.open_
  have hn := hf.1
  cases hx : askP c a b n s m with
  | false =>
    have HX := hide hx
    go_enter Tryz.func18, Tryz.ntmps18
    go_wp2_with (go_at_call 58; refine (rfAsked_any c a b n s m lo hi _ _ hv hhi hf hs).mono ?_; rintro e w1 ⟨rfl, hb1⟩; have hz1 := hb1.size; (try (simp at hz1)); obtain ⟨hcw1, hfw1⟩ := bcell hb1; (try (have hy1 : w.heap.size < w1.heap.size := by omega)); (try (have hyy1 : w.heap.size + 1 < w1.heap.size := by omega)); (try (have hyyy1 : w.heap.size + 1 + 1 < w1.heap.size := by omega)))
    go_ret2
    exact ⟨ret_ib (by rw [wkN, HX.out]; rfl) rfl, (by repeat (first | (with_reducible exact Below.refl _ _) | (with_reducible refine below_ov ?_ ?_) | (with_reducible refine Below.setCell ?_ ?_ _) | (with_reducible refine Below.alloc ?_ ?_ _) | (with_reducible refine Below.drew ?_) | (with_reducible refine below_drewN ?_ _) | (refine Below.trans ?_ (Below.mono ‹Below _ _ _› (by first | omega | (simp; done) | (simp; omega)))) | exact Below.refl _ _ | omega | (focus (simp; done)) | (focus (simp; omega))))⟩
  | true =>
    have HX := hide hx
    have HP := hide (ask_facts hx).1
    have hm := (ask_facts hx).2
    go_enter Tryz.func18, Tryz.ntmps18
    go_wp2_with (go_at_call 58; refine (rfAsked_any c a b n s m lo hi _ _ hv hhi hf hs).mono ?_; rintro e w1 ⟨rfl, hb1⟩; have hz1 := hb1.size; (try (simp at hz1)); obtain ⟨hcw1, hfw1⟩ := bcell hb1; (try (have hy1 : w.heap.size < w1.heap.size := by omega)); (try (have hyy1 : w.heap.size + 1 < w1.heap.size := by omega)); (try (have hyyy1 : w.heap.size + 1 + 1 < w1.heap.size := by omega)))
    have hb0 := hb1
    go_loopw [8, 18] (fun x i wr => ∃ k : Nat, k ≤ n ∧ i = .int .i64 k ∧ x = .int .i64 (wkF c a b s m k) ∧ Below w.heap.size w wr) (fun _ i _ => n - (intOf i).toNat)
    case atStart => exact ⟨0, by omega, rfl, rfl, hb0⟩
    case round =>
      obtain ⟨k, hk, rfl, rfl, hb⟩ := hrel
      have hzr := hb.size
      have hw := wk_bd (s := s) (m := m) HP.out (by omega) (by omega) k hk
      by_cases hkn : k < n
      · obtain ⟨blk, off, rfl, h1, h2, h3⟩ := (hA.below hb (by omega)) (by omega)
        have c0 : wr.cell? ⟨blk, off + k * 3, none⟩ = some (.string (c k)) := h3 k 0 hkn (by omega)
        have c1 : wr.cell? ⟨blk, off + k * 3 + 1, none⟩ = some (.int .i64 (a k)) := h3 k 1 hkn (by omega)
        have c2 : wr.cell? ⟨blk, off + k * 3 + 2, none⟩ = some (.int .i64 (b k)) := h3 k 2 hkn (by omega)
        clear h3 hA
        have hpk := (perB_iff.1 ((pd_facts HP.out).2 k hkn).1).2
        cases e0 : ((c k).toList == s.toList) with
        | false =>
          have HG : Hid (wkF c a b s m (k + 1) = wkF c a b s m k) := wk_no fun h => by rw [str_beq, h.1] at e0; simp at e0
          go_wp2_with fail
          go_roundw
          case rel => exact ⟨k + 1, by omega, by go_num, by rw [HG.out], (by repeat (first | (with_reducible exact Below.refl _ _) | (with_reducible refine below_ov ?_ ?_) | (with_reducible refine Below.setCell ?_ ?_ _) | (with_reducible refine Below.alloc ?_ ?_ _) | (with_reducible refine Below.drew ?_) | (with_reducible refine below_drewN ?_ _) | (refine Below.trans ?_ (Below.mono ‹Below _ _ _› (by first | omega | (simp; done) | (simp; omega)))) | exact Below.refl _ _ | omega | (focus (simp; done)) | (focus (simp; omega))))⟩
          case measure => simp [intOf]; omega
        | true =>
          cases e1 : decide (a k < m) with
          | false =>
            have HG : Hid (wkF c a b s m (k + 1) = wkF c a b s m k) := wk_no fun h => of_decide_eq_false e1 h.2
            go_wp2_with fail
            go_roundw
            case rel => exact ⟨k + 1, by omega, by go_num, by rw [HG.out], (by repeat (first | (with_reducible exact Below.refl _ _) | (with_reducible refine below_ov ?_ ?_) | (with_reducible refine Below.setCell ?_ ?_ _) | (with_reducible refine Below.alloc ?_ ?_ _) | (with_reducible refine Below.drew ?_) | (with_reducible refine below_drewN ?_ _) | (refine Below.trans ?_ (Below.mono ‹Below _ _ _› (by first | omega | (simp; done) | (simp; omega)))) | exact Below.refl _ _ | omega | (focus (simp; done)) | (focus (simp; omega))))⟩
            case measure => simp [intOf]; omega
          | true =>
            have HG : Hid (wkF c a b s m (k + 1) = wkF c a b s m k + (min (b k) m - a k)) := wk_yes (by rw [str_beq] at e0; exact of_decide_eq_true e0) (of_decide_eq_true e1)
            go_wp2_with fail
            go_quiet ((go_at_call 40; first | exact quiet_left (l1Least_any _ _ _) | exact quiet_add_left (l1Least_any _ _ _)))
            go_wp2_with fail
            go_roundw
            case rel => exact ⟨k + 1, by omega, by go_num, by rw [HG.out]; congr 1; omega, (by repeat (first | (with_reducible exact Below.refl _ _) | (with_reducible refine below_ov ?_ ?_) | (with_reducible refine Below.setCell ?_ ?_ _) | (with_reducible refine Below.alloc ?_ ?_ _) | (with_reducible refine Below.drew ?_) | (with_reducible refine below_drewN ?_ _) | (refine Below.trans ?_ (Below.mono ‹Below _ _ _› (by first | omega | (simp; done) | (simp; omega)))) | exact Below.refl _ _ | omega | (focus (simp; done)) | (focus (simp; omega))))⟩
            case measure => simp [intOf]; omega
      · obtain rfl : k = n := by omega
        go_wp2_with fail
        go_ret2
        exact ⟨ret_ib (by rw [wkN, HX.out]; rfl) rfl, hb⟩

end Go.Proofs.YtnmmkechkcfjnaaGreatDoor

/-
  Plain laws on periods: who works, rests, is due, is to be relieved. No program in sight.-/
namespace Go.Proofs.YtnmmkechkcfjnaaGreatDoor
set_option linter.unusedVariables false
set_option linter.unusedSimpArgs false

section
variable (c : Nat → ByteArray) (a b : Nat → Int) (s : ByteArray) (m : Int)
/-- The crew works at the minute in this period. -/
def atI (i : Nat) : Bool := decide (c i = s) && inB m (a i) (b i - 1)
def rsF : Nat → Int
  | 0 => -1
  | k + 1 => if c k = s ∧ b k ≤ m then max (rsF k) (b k) else rsF k
def dueB (n : Nat) (q : Int) : Bool := decide (0 ≤ fstI (atI c a b s m) n) && decide (q ≤ m - stF c a b (fstI (atI c a b s m) n).toNat)
/-- The start of the last spell, as the program finds it. -/
def nrF : Nat → Int × Bool
  | 0 => (0, false)
  | k + 1 => if c k = s ∧ (befI c k < 0 ∨ b (befI c k).toNat < a k) then (a k, true) else nrF k
def nrS (k : Nat) : Int := (nrF c a b s k).1
def nrB (k : Nat) : Bool := (nrF c a b s k).2
end
section
variable {c : Nat → ByteArray} {a b : Nat → Int} {s : ByteArray} {m : Int} {n : Nat}
theorem rs_yes {k : Nat} (h : c k = s) (h' : b k ≤ m) : rsF c b s m (k + 1) = max (rsF c b s m k) (b k) := by rw [rsF, if_pos ⟨h, h'⟩]
theorem rs_no {k : Nat} (h : ¬ (c k = s ∧ b k ≤ m)) : rsF c b s m (k + 1) = rsF c b s m k := by rw [rsF, if_neg h]
theorem rs_bd : ∀ k, -1 ≤ rsF c b s m k ∧ (rsF c b s m k = -1 ∨ rsF c b s m k ≤ m)
  | 0 => by simp [rsF]
  | k + 1 => by
    have ih := rs_bd k
    by_cases h : c k = s ∧ b k ≤ m
    · rw [rs_yes h.1 h.2]; omega
    · rw [rs_no h]; exact ih
theorem nr_yes {k : Nat} (h : c k = s) (h' : befI c k < 0 ∨ b (befI c k).toNat < a k) : nrS c a b s (k + 1) = a k ∧ nrB c a b s (k + 1) = true := by
  unfold nrS nrB
  rw [nrF, if_pos ⟨h, h'⟩]
  exact ⟨rfl, rfl⟩
theorem nr_no {k : Nat} (h : ¬ (c k = s ∧ (befI c k < 0 ∨ b (befI c k).toNat < a k))) : nrS c a b s (k + 1) = nrS c a b s k ∧ nrB c a b s (k + 1) = nrB c a b s k := by
  unfold nrS nrB
  rw [nrF, if_neg h]
  exact ⟨rfl, rfl⟩
theorem nr_eq (hp : pdB c a b n = true) : ∀ k, k ≤ n → (lstI (crewI c s) k < 0 → nrS c a b s k = 0 ∧ nrB c a b s k = false) ∧ (0 ≤ lstI (crewI c s) k → nrS c a b s k = stF c a b (lstI (crewI c s) k).toNat ∧ nrB c a b s k = true)
  | 0, _ => ⟨fun _ => ⟨rfl, rfl⟩, fun h => by simp [lstI] at h⟩
  | k + 1, hk => by
    have ih := nr_eq hp k (by omega)
    by_cases hc : c k = s
    · have hl : lstI (crewI c s) (k + 1) = k := by rw [lstI, if_pos (by simp [crewI, hc])]
      rw [hl]
      refine ⟨fun h => by omega, fun _ => ?_⟩
      rw [Int.toNat_natCast]
      by_cases hb : befI c k < 0
      · have := nr_yes (c := c) (a := a) (b := b) (s := s) (k := k) hc (.inl hb)
        rw [st_none hb]; exact this
      · obtain ⟨j, hj⟩ : ∃ j : Nat, befI c k = j := ⟨(befI c k).toNat, by omega⟩
        have hle := bef_le hp (by omega) hj
        by_cases he : b j = a k
        · have h1 := nr_no (c := c) (a := a) (b := b) (s := s) (k := k) (by rw [hj, Int.toNat_natCast]; intro h; rcases h.2 with h2 | h2 <;> omega)
          rw [h1.1, h1.2, st_join hj he]
          have h2 : lstI (crewI c s) k = j := by rw [← hc]; exact hj
          have h3 := ih.2 (by omega)
          rw [h2, Int.toNat_natCast] at h3
          exact h3
        · have h1 := nr_yes (c := c) (a := a) (b := b) (s := s) (k := k) hc (.inr (by rw [hj, Int.toNat_natCast]; omega))
          rw [st_gap hp (by omega) hj he]; exact h1
    · have hl : lstI (crewI c s) (k + 1) = lstI (crewI c s) k := by rw [lstI, if_neg (by simp [crewI, hc])]
      have h1 := nr_no (c := c) (a := a) (b := b) (s := s) (k := k) (fun h => hc h.1)
      rw [hl, h1.1, h1.2]
      exact ih
end

end Go.Proofs.YtnmmkechkcfjnaaGreatDoor

/-
  Walks: how long a crew has rested; where it works.-/
namespace Go.Proofs.YtnmmkechkcfjnaaGreatDoor
set_option linter.unusedVariables false
set_option linter.unusedSimpArgs false
open Go.RowKit

def anyAt (c : Nat → ByteArray) (a b : Nat → Int) (n : Nat) (s : ByteArray) (m : Int) : Bool := decide (0 ≤ fstI (atI c a b s m) n)
def restOk (c : Nat → ByteArray) (a b : Nat → Int) (n : Nat) (s : ByteArray) (m : Int) : Bool := askP c a b n s m && (anyAt c a b n s m || !decide (rsF c b s m n < 0))
def restN (c : Nat → ByteArray) (a b : Nat → Int) (n : Nat) (s : ByteArray) (m : Int) : Int := if (restOk c a b n s m && !anyAt c a b n s m) = true then m - rsF c b s m n else 0
theorem rest_ask {c : Nat → ByteArray} {a b : Nat → Int} {n : Nat} {s : ByteArray} {m : Int} (h : askP c a b n s m = false) : restN c a b n s m = 0 ∧ restOk c a b n s m = false := by simp [restN, restOk, h]
theorem rest_at {c : Nat → ByteArray} {a b : Nat → Int} {n : Nat} {s : ByteArray} {m : Int} (h : askP c a b n s m = true) (h' : anyAt c a b n s m = true) : restN c a b n s m = 0 ∧ restOk c a b n s m = true := by simp [restN, restOk, h, h']
theorem rest_no {c : Nat → ByteArray} {a b : Nat → Int} {n : Nat} {s : ByteArray} {m : Int} (h : askP c a b n s m = true) (h' : anyAt c a b n s m = false) (h'' : decide (rsF c b s m n < 0) = true) : restN c a b n s m = 0 ∧ restOk c a b n s m = false := by simp [restN, restOk, h, h', h'']
theorem rest_yes {c : Nat → ByteArray} {a b : Nat → Int} {n : Nat} {s : ByteArray} {m : Int} (h : askP c a b n s m = true) (h' : anyAt c a b n s m = false) (h'' : decide (rsF c b s m n < 0) = false) : restN c a b n s m = m - rsF c b s m n ∧ restOk c a b n s m = true := by simp [restN, restOk, h, h', h'']


end Go.Proofs.YtnmmkechkcfjnaaGreatDoor

/-
  Walks: who is due, when to relieve: the starts of spells.-/
namespace Go.Proofs.YtnmmkechkcfjnaaGreatDoor
set_option linter.unusedVariables false
set_option linter.unusedSimpArgs false
open Go.RowKit


end Go.Proofs.YtnmmkechkcfjnaaGreatDoor

/-
  Walks: the crews at a minute, the crews that are due: the reference's.-/
namespace Go.Proofs.YtnmmkechkcfjnaaGreatDoor
set_option linter.unusedVariables false
set_option linter.unusedSimpArgs false
open Go.RowKit Go.Sort

def sel (c : Nat → ByteArray) (p : Nat → Bool) (k : Nat) : List (List UInt8) := (flt p k).map fun (i : Nat) => (c i).toList
theorem sel_yes {c : Nat → ByteArray} {p : Nat → Bool} {k : Nat} (h : p k = true) : sel c p (k + 1) = sel c p k ++ [(c k).toList] := by rw [sel, flt_yes h]; simp [sel]
theorem sel_no {c : Nat → ByteArray} {p : Nat → Bool} {k : Nat} (h : p k = false) : sel c p (k + 1) = sel c p k := by rw [sel, flt_no h]; rfl
theorem sel_len {c : Nat → ByteArray} {p : Nat → Bool} {k : Nat} : (sel c p k).length ≤ k := by rw [sel, List.length_map]; exact flt_len p k
theorem putAll_le {L : List (List UInt8)} : (putAll L).length ≤ L.length := by have := putAll_len L []; simpa [putAll] using this
/-- What the call hands back. -/
def CrRes (R : List (List UInt8)) (ok : Bool) (w : World) (e : Ending) (w' : World) : Prop := ∃ v', e = .returned (.tuple #[v', .bool ok]) ∧ TRow w' w.heap.size v' R ∧ Below w.heap.size w w'
theorem cr_nil {w w' : World} (hb : Below w.heap.size w w') : CrRes [] false w (.returned (.tuple #[.slice none 0 0, .bool false])) w' := ⟨_, rfl, World.ownsRow_nil _ _ _ _, hb⟩
def caP (a b : Nat → Int) (m : Int) (i : Nat) : Bool := inB m (a i) (b i - 1)
def caOk (c : Nat → ByteArray) (a b : Nat → Int) (n : Nat) (m : Int) : Bool := pdB c a b n && inB m 0 9999
def caR (c : Nat → ByteArray) (a b : Nat → Int) (n : Nat) (m : Int) : List (List UInt8) := if caOk c a b n m = true then putAll (sel c (caP a b m) n) else []
def caN (c : Nat → ByteArray) (a b : Nat → Int) (n : Nat) (m : Int) : Nat := (caR c a b n m).length
def caS (c : Nat → ByteArray) (a b : Nat → Int) (n : Nat) (m : Int) : Nat → ByteArray := tl (caR c a b n m)
def dcP (c : Nat → ByteArray) (a b : Nat → Int) (n : Nat) (m q : Int) (i : Nat) : Bool := dueB c a b (c i) m n q
def dcOk (c : Nat → ByteArray) (a b : Nat → Int) (n : Nat) (m q : Int) : Bool := pdB c a b n && inB m 0 9999 && inB q 1 720
def dcR (c : Nat → ByteArray) (a b : Nat → Int) (n : Nat) (m q : Int) : List (List UInt8) := if dcOk c a b n m q = true then putAll (sel c (dcP c a b n m q) n) else []
def dcN (c : Nat → ByteArray) (a b : Nat → Int) (n : Nat) (m q : Int) : Nat := (dcR c a b n m q).length
def dcS (c : Nat → ByteArray) (a b : Nat → Int) (n : Nat) (m q : Int) : Nat → ByteArray := tl (dcR c a b n m q)
theorem caN_le {c : Nat → ByteArray} {a b : Nat → Int} {n : Nat} {m : Int} : caN c a b n m ≤ 1048576 := by
  unfold caN caR
  split
  · rename_i h
    simp only [caOk, Bool.and_eq_true] at h
    have := (pd_facts h.1).1
    have h1 := putAll_le (L := sel c (caP a b m) n)
    have h2 := sel_len (c := c) (p := caP a b m) (k := n)
    omega
  · simp
theorem dcN_le {c : Nat → ByteArray} {a b : Nat → Int} {n : Nat} {m q : Int} : dcN c a b n m q ≤ 1048576 := by
  unfold dcN dcR
  split
  · rename_i h
    simp only [dcOk, Bool.and_eq_true] at h
    have := (pd_facts h.1.1).1
    have h1 := putAll_le (L := sel c (dcP c a b n m q) n)
    have h2 := sel_len (c := c) (p := dcP c a b n m q) (k := n)
    omega
  · simp
theorem CrRes.own {R : List (List UInt8)} {ok : Bool} {w w' : World} {e : Ending} (h : CrRes R ok w e w') : ∃ v', e = .returned (.tuple #[v', .bool ok]) ∧ Own w' w.heap.size w'.heap.size 9 1 v' R.length R.length (sC (tl R)) ∧ Below w.heap.size w w' := by
  obtain ⟨v', h1, h2, h3⟩ := h
  exact ⟨v', h1, h2.own, h3⟩
set_option maxRecDepth 100000 in
set_option maxHeartbeats 3200000 in
theorem CrewsAt_specR (c : Nat → ByteArray) (a b : Nat → Int) (n : Nat) (m : Int) (lo hi : Nat) (v : Value) (w : World) (hv : Sl w lo hi 3 v n (siiC c a b)) (hhi : hi ≤ w.heap.size) (hf : pfits c n) :
    Calls Tryz.prog 17 #[v, .int .i64 m] w (CrRes (caR c a b n m) (caOk c a b n m) w) := by
  obtain ⟨A, cap, rfl, hcap, hA⟩ := hv.open_
  have hn := hf.1
  cases hc1_0 : pdB c a b n with
  | false =>
    have HX : Hid (caOk c a b n m = false) := by show _ = _; simp [caOk, *]
    have HR : Hid (caR c a b n m = []) := by show _ = _; rw [caR, HX.out]; rfl
    go_enter Tryz.func17, Tryz.ntmps17
    go_wp2_with (first | (go_at_call 50; refine (rfGood_any c a b n lo hi _ _ hv hhi hf).mono ?_; rintro e w1 ⟨rfl, hb1⟩; have hz1 := hb1.size; (try (simp at hz1)); obtain ⟨hcw1, hfw1⟩ := bcell hb1; (try (have hy1 : w.heap.size < w1.heap.size := by omega)); (try (have hyy1 : w.heap.size + 1 < w1.heap.size := by omega)); (try (have hyyy1 : w.heap.size + 1 + 1 < w1.heap.size := by omega))) | (go_at_call 55; refine (rfMinute_any _ _).mono ?_; rintro e w' ⟨rfl, rfl⟩) | (go_at_call 67; refine (rfMost_any _ _).mono ?_; rintro e w' ⟨rfl, rfl⟩))
    go_ret2
    rw [HX.out, HR.out]
    exact cr_nil (by repeat (first | (with_reducible exact Below.refl _ _) | (with_reducible refine below_ov ?_ ?_) | (with_reducible refine Below.setCell ?_ ?_ _) | (with_reducible refine Below.alloc ?_ ?_ _) | (with_reducible refine Below.drew ?_) | (with_reducible refine below_drewN ?_ _) | (refine Below.trans ?_ (Below.mono ‹Below _ _ _› (by first | omega | (simp; done) | (simp; omega)))) | exact Below.refl _ _ | omega | (focus (simp; done)) | (focus (simp; omega))))
  | true =>
    cases hc1_1 : inB m 0 9999 with
    | false =>
      have HX : Hid (caOk c a b n m = false) := by show _ = _; simp [caOk, *]
      have HR : Hid (caR c a b n m = []) := by show _ = _; rw [caR, HX.out]; rfl
      go_enter Tryz.func17, Tryz.ntmps17
      go_wp2_with (first | (go_at_call 50; refine (rfGood_any c a b n lo hi _ _ hv hhi hf).mono ?_; rintro e w1 ⟨rfl, hb1⟩; have hz1 := hb1.size; (try (simp at hz1)); obtain ⟨hcw1, hfw1⟩ := bcell hb1; (try (have hy1 : w.heap.size < w1.heap.size := by omega)); (try (have hyy1 : w.heap.size + 1 < w1.heap.size := by omega)); (try (have hyyy1 : w.heap.size + 1 + 1 < w1.heap.size := by omega))) | (go_at_call 55; refine (rfMinute_any _ _).mono ?_; rintro e w' ⟨rfl, rfl⟩) | (go_at_call 67; refine (rfMost_any _ _).mono ?_; rintro e w' ⟨rfl, rfl⟩))
      go_ret2
      rw [HX.out, HR.out]
      exact cr_nil (by repeat (first | (with_reducible exact Below.refl _ _) | (with_reducible refine below_ov ?_ ?_) | (with_reducible refine Below.setCell ?_ ?_ _) | (with_reducible refine Below.alloc ?_ ?_ _) | (with_reducible refine Below.drew ?_) | (with_reducible refine below_drewN ?_ _) | (refine Below.trans ?_ (Below.mono ‹Below _ _ _› (by first | omega | (simp; done) | (simp; omega)))) | exact Below.refl _ _ | omega | (focus (simp; done)) | (focus (simp; omega))))
    | true =>
      obtain ⟨hc1_1l, hc1_1r⟩ := inB_iff.1 hc1_1
      have HX : Hid (caOk c a b n m = true) := by show _ = _; simp [caOk, *]
      have HP : Hid (pdB c a b n = true) := by show _ = _; assumption
      have HR : Hid (caR c a b n m = putAll (sel c (caP a b m) n)) := by show _ = _; rw [caR, if_pos HX.out]
      go_enter Tryz.func17, Tryz.ntmps17
      go_wp2_with (first | (go_at_call 50; refine (rfGood_any c a b n lo hi _ _ hv hhi hf).mono ?_; rintro e w1 ⟨rfl, hb1⟩; have hz1 := hb1.size; (try (simp at hz1)); obtain ⟨hcw1, hfw1⟩ := bcell hb1; (try (have hy1 : w.heap.size < w1.heap.size := by omega)); (try (have hyy1 : w.heap.size + 1 < w1.heap.size := by omega)); (try (have hyyy1 : w.heap.size + 1 + 1 < w1.heap.size := by omega))) | (go_at_call 55; refine (rfMinute_any _ _).mono ?_; rintro e w' ⟨rfl, rfl⟩) | (go_at_call 67; refine (rfMost_any _ _).mono ?_; rintro e w' ⟨rfl, rfl⟩))
      have hb0 : Below w.heap.size w w1 := (by repeat (first | (with_reducible exact Below.refl _ _) | (with_reducible refine below_ov ?_ ?_) | (with_reducible refine Below.setCell ?_ ?_ _) | (with_reducible refine Below.alloc ?_ ?_ _) | (with_reducible refine Below.drew ?_) | (with_reducible refine below_drewN ?_ _) | (refine Below.trans ?_ (Below.mono ‹Below _ _ _› (by first | omega | (simp; done) | (simp; omega)))) | exact Below.refl _ _ | omega | (focus (simp; done)) | (focus (simp; omega))))
      go_loopw [6, 19] (fun o i wr => ∃ k : Nat, k ≤ n ∧ i = .int .i64 k ∧ Hid (TRow wr w.heap.size o (putAll (sel c (caP a b m) k))) ∧ Below w.heap.size w wr) (fun _ i _ => n - (intOf i).toNat)
      case atStart => exact ⟨0, by omega, rfl, World.ownsRow_nil _ _ _ _, hb0⟩
      case round =>
        obtain ⟨k, hk, rfl, hown, hb⟩ := hrel
        have hzr := hb.size
        have hn12 := (pd_facts HP.out).1
        have hL : (putAll (sel c (caP a b m) k)).length ≤ 64 := by
          have h1 := putAll_le (L := sel c (caP a b m) k)
          have h2 := sel_len (c := c) (p := caP a b m) (k := k)
          omega
        by_cases hkn : k < n
        · obtain ⟨blk, off, rfl, h1, h2, h3⟩ := (hA.below hb (by omega)) (by omega)
          have c0 : wr.cell? ⟨blk, off + k * 3, none⟩ = some (.string (c k)) := h3 k 0 hkn (by omega)
          have c1 : wr.cell? ⟨blk, off + k * 3 + 1, none⟩ = some (.int .i64 (a k)) := h3 k 1 hkn (by omega)
          have c2 : wr.cell? ⟨blk, off + k * 3 + 2, none⟩ = some (.int .i64 (b k)) := h3 k 2 hkn (by omega)
          have l0 : blk < wr.heap.size := by omega
          clear h3 hA
          have hpk := (perB_iff.1 ((pd_facts HP.out).2 k hkn).1).2
          cases e5 : inB m (a k) (b k - 1) with
          | true =>
            have hs := sel_yes (c := c) (p := caP a b m) (k := k) e5
            have HS : Hid (putAll (sel c (caP a b m) (k + 1)) = putL (c k).toList (putAll (sel c (caP a b m) k))) := by show _ = _; rw [hs, putAll_snoc]
            go_wp2_with (go_at_call 56; refine (l1In_any _ _ _ _).mono ?_; rintro e w' ⟨rfl, rfl⟩)
            refine (rfPut_any (putAll (sel c (caP a b m) k)) (c k) w.heap.size _ _ (hown.out.alloc _) (by simp; omega) hL).mono ?_
            rintro e w5 ⟨v5, rfl, ho5, hb5⟩
            have hz5 := hb5.size
            (try (simp at hz5))
            go_wp2_with fail
            go_roundw
            case rel => exact ⟨k + 1, by omega, by go_num, by rw [HS.out]; exact ho5, (by repeat (first | (with_reducible exact Below.refl _ _) | (with_reducible refine below_ov ?_ ?_) | (with_reducible refine Below.setCell ?_ ?_ _) | (with_reducible refine Below.alloc ?_ ?_ _) | (with_reducible refine Below.drew ?_) | (with_reducible refine below_drewN ?_ _) | (refine Below.trans ?_ (Below.mono ‹Below _ _ _› (by first | omega | (simp; done) | (simp; omega)))) | exact Below.refl _ _ | omega | (focus (simp; done)) | (focus (simp; omega))))⟩
            case measure => simp [intOf]; omega
          | false =>
            have hs := sel_no (c := c) (p := caP a b m) (k := k) e5
            go_wp2_with (go_at_call 56; refine (l1In_any _ _ _ _).mono ?_; rintro e w' ⟨rfl, rfl⟩)
            go_roundw
            case rel => exact ⟨k + 1, by omega, by go_num, by rw [hs]; exact hown.out.alloc _, (by repeat (first | (with_reducible exact Below.refl _ _) | (with_reducible refine below_ov ?_ ?_) | (with_reducible refine Below.setCell ?_ ?_ _) | (with_reducible refine Below.alloc ?_ ?_ _) | (with_reducible refine Below.drew ?_) | (with_reducible refine below_drewN ?_ _) | (refine Below.trans ?_ (Below.mono ‹Below _ _ _› (by first | omega | (simp; done) | (simp; omega)))) | exact Below.refl _ _ | omega | (focus (simp; done)) | (focus (simp; omega))))⟩
            case measure => simp [intOf]; omega
        · obtain rfl : k = n := by omega
          go_wp2_with fail
          go_ret2
          rw [HX.out, HR.out]
          exact ⟨_, rfl, hown.out, hb⟩
theorem CrewsAt_spec (c : Nat → ByteArray) (a b : Nat → Int) (n : Nat) (m : Int) (lo hi : Nat) (v : Value) (w : World) (hv : Sl w lo hi 3 v n (siiC c a b)) (hhi : hi ≤ w.heap.size) (hf : pfits c n) :
    Calls Tryz.prog 17 #[v, .int .i64 m] w fun e w' => ∃ v', e = .returned (.tuple #[v', .bool (caOk c a b n m)]) ∧ Own w' w.heap.size w'.heap.size 9 1 v' (caN c a b n m) (caN c a b n m) (sC (caS c a b n m)) ∧ Below w.heap.size w w' :=
  (CrewsAt_specR c a b n m lo hi v w hv hhi hf).mono fun _ _ h => h.own

end Go.Proofs.YtnmmkechkcfjnaaGreatDoor

/-
  Walks: the exported functions on who is due and when to relieve.-/
namespace Go.Proofs.YtnmmkechkcfjnaaGreatDoor
set_option linter.unusedVariables false
set_option linter.unusedSimpArgs false
open Go.RowKit

def dueOk (c : Nat → ByteArray) (a b : Nat → Int) (n : Nat) (s : ByteArray) (m q : Int) : Bool := askP c a b n s m && inB q 1 720
def dueR (c : Nat → ByteArray) (a b : Nat → Int) (n : Nat) (s : ByteArray) (m q : Int) : Bool := dueOk c a b n s m q && dueB c a b s m n q
theorem ret_bb {a b c d : Bool} (h : a = c) (h' : b = d) : Ending.returned (.tuple #[.bool a, .bool b]) = .returned (.tuple #[.bool c, .bool d]) := by rw [h, h']
def nxP (c : Nat → ByteArray) (a b : Nat → Int) (n : Nat) (s : ByteArray) (q : Int) : Bool := pdB c a b n && nameB s && inB q 1 720
def nxOk (c : Nat → ByteArray) (a b : Nat → Int) (n : Nat) (s : ByteArray) (q : Int) : Bool := nxP c a b n s q && nrB c a b s n
def nxR (c : Nat → ByteArray) (a b : Nat → Int) (n : Nat) (s : ByteArray) (q : Int) : Int := if nxOk c a b n s q = true then nrS c a b s n + q else 0

end Go.Proofs.YtnmmkechkcfjnaaGreatDoor

/-
  Walks: the laws' own helpers for Int: copies, comparisons, sizes (printed by gen_data.py).-/
namespace Go.Proofs.YtnmmkechkcfjnaaGreatDoor
set_option linter.unusedVariables false
set_option linter.unusedSimpArgs false
open Go.RowKit


end Go.Proofs.YtnmmkechkcfjnaaGreatDoor
