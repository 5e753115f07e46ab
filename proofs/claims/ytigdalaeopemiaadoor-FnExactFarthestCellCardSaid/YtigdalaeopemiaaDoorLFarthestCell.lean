/-
  FnExactFarthestCell: the law returns true at every input. No condition.
-/
import Derived.Test.YtigdalaeopemiaaDoorOString
import Derived.Test.YtigdalaeopemiaaDoorDString
import Derived.Test.YtigdalaeopemiaaDoorWSzS
import Derived.Test.YtigdalaeopemiaaDoorWFar
import Derived.Test.YtigdalaeopemiaaDoorFrame
import Derived.Test.YtigdalaeopemiaaDoorDFrame
import Derived.Test.YtigdalaeopemiaaDoorTie
import Derived.Lay
import Derived.LaidMore
import Derived.SevenTiedAt
import Derived.Stop.Joined
import Derived.Test.YtigdalaeopemiaaDoorDCell
import Derived.Test.YtigdalaeopemiaaDoorPBx
import Derived.Test.YtigdalaeopemiaaDoorMix
import Derived.Test.YtigdalaeopemiaaDoorOCell
import Derived.BigRegion
namespace Go.Proofs.YtigdalaeopemiaaDoor
set_option linter.unusedVariables false
set_option linter.unusedSimpArgs false
open Go.ChangeShapes Go.WideShapes Go.ChangeAt Go.RowKit Go.Joins Go.Deep

theorem iiE_self (a b : Int) : iiE a b a b = true := iiE_iff.2 ⟨rfl, rfl⟩
set_option maxRecDepth 100000 in
set_option maxHeartbeats 3200000 in
theorem FnExactFarthestCell_walk (A : Option Addr) (n cap : Nat) (F : Nat → ByteArray) (r c : Int) (w : World) (hcap : n ≤ cap) (hmax : cap ≤ maxLen) (hA : SlA w 0 w.heap.size 1 A n (sC F)) (hsz : ∀ i, i < n → (F i).size ≤ maxLen) :
    Calls Tryd.prog 8 #[.slice A n cap, .agg #[.int .i64 r, .int .i64 c]] w fun e w' => e = .returned (.bool true) ∧ Below w.heap.size w w' := by
  unfold maxLen at hmax
  have hS : Sl w 0 w.heap.size 1 (.slice A n cap) n (sC F) := hA.shut hcap
  clear hA
  cases hd : decide (szPF 1048576 F n < 0) with
  | true =>
    have HPX : Hid (∀ W, Below (w.heap.size + 1) (w.alloc (.cells #[.int .i64 r, .int .i64 c] 28)) W → W.cell? ⟨w.heap.size, 0, none⟩ = some (.int .i64 r) ∧ W.cell? ⟨w.heap.size, 1, none⟩ = some (.int .i64 c)) := fun W hW => ⟨(hW.cell (p := ⟨w.heap.size, 0, none⟩) (by show w.heap.size < w.heap.size + 1; omega)).trans (World.cell?_alloc_at _ _ _ _ (by simp)), (hW.cell (p := ⟨w.heap.size, 1, none⟩) (by show w.heap.size < w.heap.size + 1; omega)).trans (World.cell?_alloc_at _ _ _ _ (by simp))⟩
    go_enter Tryd.func8, Tryd.ntmps8
    go_wp2_with fail
    refine (szStringS_any F n 1048576 0 w.heap.size _ _ (hS.below (B := w.heap.size) (by repeat (first | (with_reducible exact Below.refl _ _) | (with_reducible refine below_ov ?_ ?_) | (with_reducible refine Below.setCell ?_ ?_ _) | (with_reducible refine Below.alloc ?_ ?_ _) | (with_reducible refine Below.drew ?_) | (with_reducible refine below_drewN ?_ _) | (refine Below.trans ?_ (Below.mono ‹Below _ _ _› (by first | omega | (simp; done) | (simp; omega)))) | exact Below.refl _ _ | omega | (focus (simp; done)) | (focus (simp; omega)))) (Nat.le_refl _)) (by first | omega | (simp; done) | (simp; omega)) (by omega) (by omega) (by omega) hsz).mono ?_
    rintro e w1 ⟨rfl, hb1⟩
    have hz1 := hb1.size
    (try (simp at hz1))
    go_wp2_with fail
    go_ret
    exact ⟨rfl, (by repeat (first | (with_reducible exact Below.refl _ _) | (with_reducible refine below_ov ?_ ?_) | (with_reducible refine Below.setCell ?_ ?_ _) | (with_reducible refine Below.alloc ?_ ?_ _) | (with_reducible refine Below.drew ?_) | (with_reducible refine below_drewN ?_ _) | (refine Below.trans ?_ (Below.mono ‹Below _ _ _› (by first | omega | (simp; done) | (simp; omega)))) | exact Below.refl _ _ | omega | (focus (simp; done)) | (focus (simp; omega))))⟩
  | false =>
    have hd0 := Int.not_lt.1 (of_decide_eq_false hd)
    have hn := szPF_n hd0
    have hf : ffits F n := ⟨by omega, hsz⟩
    have HQF := hide (sL_self F n)
    have HPX : Hid (∀ W, Below (w.heap.size + 1) (w.alloc (.cells #[.int .i64 r, .int .i64 c] 28)) W → W.cell? ⟨w.heap.size, 0, none⟩ = some (.int .i64 r) ∧ W.cell? ⟨w.heap.size, 1, none⟩ = some (.int .i64 c)) := fun W hW => ⟨(hW.cell (p := ⟨w.heap.size, 0, none⟩) (by show w.heap.size < w.heap.size + 1; omega)).trans (World.cell?_alloc_at _ _ _ _ (by simp)), (hW.cell (p := ⟨w.heap.size, 1, none⟩) (by show w.heap.size < w.heap.size + 1; omega)).trans (World.cell?_alloc_at _ _ _ _ (by simp))⟩
    go_enter Tryd.func8, Tryd.ntmps8
    go_wp2_with fail
    refine (szStringS_any F n 1048576 0 w.heap.size _ _ (hS.below (B := w.heap.size) (by repeat (first | (with_reducible exact Below.refl _ _) | (with_reducible refine below_ov ?_ ?_) | (with_reducible refine Below.setCell ?_ ?_ _) | (with_reducible refine Below.alloc ?_ ?_ _) | (with_reducible refine Below.drew ?_) | (with_reducible refine below_drewN ?_ _) | (refine Below.trans ?_ (Below.mono ‹Below _ _ _› (by first | omega | (simp; done) | (simp; omega)))) | exact Below.refl _ _ | omega | (focus (simp; done)) | (focus (simp; omega)))) (Nat.le_refl _)) (by first | omega | (simp; done) | (simp; omega)) (by omega) (by omega) (by omega) hsz).mono ?_
    rintro e w1 ⟨rfl, hb1⟩
    have hz1 := hb1.size
    (try (simp at hz1))
    have hbc : Below (w.heap.size + 1) (w.alloc (.cells #[.int .i64 r, .int .i64 c] 28)) w1 := (by repeat (first | (with_reducible exact Below.refl _ _) | (with_reducible refine below_ov ?_ ?_) | (with_reducible refine Below.setCell ?_ ?_ _) | (with_reducible refine Below.alloc ?_ ?_ _) | (with_reducible refine Below.drew ?_) | (with_reducible refine below_drewN ?_ _) | (refine Below.trans ?_ (Below.mono ‹Below _ _ _› (by first | omega | (simp; done) | (simp; omega)))) | exact Below.refl _ _ | omega | (focus (simp; done)) | (focus (simp; omega))))
    have hzd : w1.drew.heap.size = w1.heap.size := rfl
    have HPC : Hid (∀ W, Below w1.heap.size w1.drew W → W.cell? ⟨w.heap.size, 0, none⟩ = some (.int .i64 r) ∧ W.cell? ⟨w.heap.size, 1, none⟩ = some (.int .i64 c)) := fun W hW => HPX.out W ((Below.drew hbc).trans (hW.mono (by omega)))
    clear hbc
    go_wp2_with fail
    refine wp_region_tree (.step 0 true (.step 2 true (.fork 1 (.fork 3 (.fork 4 (.step 5 true (.step 6 true (.step 7 true (.step 8 true (.step 9 false (.step 10 false (.step 11 true (.step 12 true .nil)))))))) 9 (.step 4 false (.step 5 true (.step 6 true (.step 7 true (.step 8 true (.step 10 false (.step 11 true (.step 12 true .nil))))))))) 9 (.step 3 false (.step 4 false (.step 5 true (.step 6 true (.step 7 true (.step 8 true (.step 10 false (.step 11 true (.step 12 true .nil)))))))))) 9 (.step 1 false (.step 3 false (.step 4 false (.step 5 true (.step 6 true (.step 7 true (.step 8 true (.step 10 false (.step 11 true (.step 12 true .nil))))))))))))) (fun w' => Below w1.heap.size w1.drew w') (by kernel_rfl) (by kernel_rfl) (by kernel_rfl) (by kernel_rfl) (Below.refl _ _) ?_
    refine tree_look _ _ rfl rfl (fun w' _ => BigFrame.run_move _ rfl w') ?_
    go_simp
    refine tree_look _ (.agg #[.int .i64 r, .int .i64 c]) rfl rfl (fun w' hw' => (by obtain ⟨a0, a1⟩ := HPC.out w' hw'; go_simp)) ?_
    go_simp
    refine wpMT_fork ?_ ?_
    · refine tree_call _ 16 #[.slice A n cap] rfl rfl (by go_simp) ?_
      refine (toStringS_any F n _ _ _ _ (hS.below (B := w.heap.size) (by repeat (first | (with_reducible exact Below.refl _ _) | (with_reducible refine below_ov ?_ ?_) | (with_reducible refine Below.setCell ?_ ?_ _) | (with_reducible refine Below.alloc ?_ ?_ _) | (with_reducible refine Below.drew ?_) | (with_reducible refine below_drewN ?_ _) | (refine Below.trans ?_ (Below.mono ‹Below _ _ _› (by first | omega | (simp; done) | (simp; omega)))) | exact Below.refl _ _ | omega | (focus (simp; done)) | (focus (simp; omega)))) (Nat.le_refl _)) (by first | omega | (simp; done) | (simp; omega)) hf.1).mono ?_
      rintro e w2 ⟨v2, rfl, ho2, hb2⟩
      have hz2 := hb2.size
      (try (simp at hz2))
      refine ⟨_, rfl, (by repeat (first | (with_reducible exact Below.refl _ _) | (with_reducible refine below_ov ?_ ?_) | (with_reducible refine Below.setCell ?_ ?_ _) | (with_reducible refine Below.alloc ?_ ?_ _) | (with_reducible refine Below.drew ?_) | (with_reducible refine below_drewN ?_ _) | (refine Below.trans ?_ (Below.mono ‹Below _ _ _› (by first | omega | (simp; done) | (simp; omega)))) | exact Below.refl _ _ | omega | (focus (simp; done)) | (focus (simp; omega)))), ?_⟩
      obtain ⟨A2, c2, rfl, _, _⟩ := ho2.sl.open_
      go_simp
      refine wpMT_fork ?_ ?_
      · refine tree_call _ 20 #[.agg #[.int .i64 r, .int .i64 c]] rfl rfl (by go_simp) ?_
        refine (toCell_any r c _).mono ?_
        rintro e w3 ⟨rfl, hb3⟩
        have hz3 := hb3.size
        (try (simp at hz3))
        refine ⟨_, rfl, (by repeat (first | (with_reducible exact Below.refl _ _) | (with_reducible refine below_ov ?_ ?_) | (with_reducible refine Below.setCell ?_ ?_ _) | (with_reducible refine Below.alloc ?_ ?_ _) | (with_reducible refine Below.drew ?_) | (with_reducible refine below_drewN ?_ _) | (refine Below.trans ?_ (Below.mono ‹Below _ _ _› (by first | omega | (simp; done) | (simp; omega)))) | exact Below.refl _ _ | omega | (focus (simp; done)) | (focus (simp; omega)))), ?_⟩
        go_simp
        refine wpMT_fork ?_ ?_
        · refine tree_call _ 34 #[.slice A2 n c2, .agg #[.int .i64 r, .int .i64 c]] rfl rfl (by go_simp) ?_
          refine (FarthestCell_spec F n r c _ _ _ _ (ho2.below (B := w2.heap.size) (by repeat (first | (with_reducible exact Below.refl _ _) | (with_reducible refine below_ov ?_ ?_) | (with_reducible refine Below.setCell ?_ ?_ _) | (with_reducible refine Below.alloc ?_ ?_ _) | (with_reducible refine Below.drew ?_) | (with_reducible refine below_drewN ?_ _) | (refine Below.trans ?_ (Below.mono ‹Below _ _ _› (by first | omega | (simp; done) | (simp; omega)))) | exact Below.refl _ _ | omega | (focus (simp; done)) | (focus (simp; omega)))) (Nat.le_refl _)).sl (by first | omega | (simp; done) | (simp; omega)) hf).mono ?_
          rintro e w4 ⟨rfl, hb4⟩
          have hz4 := hb4.size
          (try (simp at hz4))
          refine ⟨_, rfl, (by repeat (first | (with_reducible exact Below.refl _ _) | (with_reducible refine below_ov ?_ ?_) | (with_reducible refine Below.setCell ?_ ?_ _) | (with_reducible refine Below.alloc ?_ ?_ _) | (with_reducible refine Below.drew ?_) | (with_reducible refine below_drewN ?_ _) | (refine Below.trans ?_ (Below.mono ‹Below _ _ _› (by first | omega | (simp; done) | (simp; omega)))) | exact Below.refl _ _ | omega | (focus (simp; done)) | (focus (simp; omega)))), ?_⟩
          go_simp
          refine tree_look _ _ rfl rfl (fun w' _ => BigFrame.run_move _ rfl w') ?_
          go_simp
          refine tree_look _ (.agg #[.int .i64 (faP F n r c).1, .int .i64 (faP F n r c).2]) rfl rfl (fun w' _ => (by go_simp)) ?_
          go_simp
          refine tree_look _ (.int .i64 (faN F n r c)) rfl rfl (fun w' _ => (by go_simp)) ?_
          go_simp
          refine tree_look _ (.bool (sfOk F n r c)) rfl rfl (fun w' _ => (by go_simp)) ?_
          go_simp
          refine wpMT_eff ?_
          obtain ⟨w5, W5⟩ : ∃ W, W = w4.alloc (.cells #[.int .i64 0, .int .i64 0] 31) := ⟨_, rfl⟩
          have hb5 : Below w4.heap.size w4 w5 := by rw [W5]; exact (Below.refl _ _).alloc (Nat.le_refl _) _
          have hz5 : w5.heap.size = w4.heap.size + 1 := by rw [W5]; simp
          have B5 : Hid (Bx2 w5 w4.heap.size 0 0) := by show Bx2 _ _ _ _; rw [W5]; exact Bx2.new w4 0 0
          have HW5 := hide W5
          have HZ5 := hide hz5
          have hz5 := Nat.le_of_eq hz5.symm
          clear W5
          refine tree_value _ (.pointer (some ⟨w4.heap.size, 0, none⟩)) w5 rfl rfl (by rw [HW5.out]; go_simp) (by repeat (first | (with_reducible exact Below.refl _ _) | (with_reducible refine below_ov ?_ ?_) | (with_reducible refine Below.setCell ?_ ?_ _) | (with_reducible refine Below.alloc ?_ ?_ _) | (with_reducible refine Below.drew ?_) | (with_reducible refine below_drewN ?_ _) | (refine Below.trans ?_ (Below.mono ‹Below _ _ _› (by first | omega | (simp; done) | (simp; omega)))) | exact Below.refl _ _ | omega | (focus (simp; done)) | (focus (simp; omega)))) ?_
          go_simp
          obtain ⟨q0, q1, qf, ql⟩ := B5.out
          have hC6 : Below w1.heap.size w1.drew w5 := (by repeat (first | (with_reducible exact Below.refl _ _) | (with_reducible refine below_ov ?_ ?_) | (with_reducible refine Below.setCell ?_ ?_ _) | (with_reducible refine Below.alloc ?_ ?_ _) | (with_reducible refine Below.drew ?_) | (with_reducible refine below_drewN ?_ _) | (refine Below.trans ?_ (Below.mono ‹Below _ _ _› (by first | omega | (simp; done) | (simp; omega)))) | exact Below.refl _ _ | omega | (focus (simp; done)) | (focus (simp; omega))))
          obtain ⟨w6, W6⟩ : ∃ W, W = (w5.setCell ⟨w4.heap.size, 0, none⟩ (.int .i64 (faP F n r c).1)).setCell ⟨w4.heap.size, 1, none⟩ (.int .i64 (faP F n r c).2) := ⟨_, rfl⟩
          have hb6 : Below w1.heap.size w1.drew w6 := by rw [W6]; exact (hC6.setCell (by show _ ≤ w4.heap.size; have := hzd; omega) _).setCell (by show _ ≤ w4.heap.size; have := hzd; omega) _
          have hz6 : w6.heap.size = w5.heap.size := by rw [W6]; simp [World.setCell]
          have BX : Hid (Bx2 w6 (w4.heap.size) ((faP F n r c).1) ((faP F n r c).2)) := by show Bx2 _ _ _ _; rw [W6]; exact B5.out.set _ _
          have hg1 : w4.heap.size < w6.heap.size := BX.out.lt
          have HW6 := hide W6
          have hz6 := Nat.le_of_eq hz6.symm
          clear W6
          refine wpMT_eff (tree_store _ w6 rfl rfl (by rw [HW6.out]; go_simp) hb6 ?_)
          clear q0 q1 qf ql
          go_simp
          refine tree_look _ _ rfl rfl (fun w' _ => BigFrame.run_assign _ rfl w') ?_
          go_simp
          refine tree_look _ _ rfl rfl (fun w' _ => BigFrame.run_assign _ rfl w') ?_
          go_simp
          refine wpMT_nil ?_
          obtain ⟨G, HG⟩ : ∃ G : Nat, G = w4.heap.size := ⟨_, rfl⟩
          rw [← HG] at BX hg1
          (try rw [← HG])
          have HHG := hide HG
          clear HG HPC
          go_wp2_with fail
          refine (toStringS_any F n _ _ _ _ (hS.below (B := w.heap.size) (by repeat (first | (with_reducible exact Below.refl _ _) | (with_reducible refine below_ov ?_ ?_) | (with_reducible refine Below.setCell ?_ ?_ _) | (with_reducible refine Below.alloc ?_ ?_ _) | (with_reducible refine Below.drew ?_) | (with_reducible refine below_drewN ?_ _) | (refine Below.trans ?_ (Below.mono ‹Below _ _ _› (by first | omega | (simp; done) | (simp; omega)))) | exact Below.refl _ _ | omega | (focus (simp; done)) | (focus (simp; omega)))) (Nat.le_refl _)) (by first | omega | (simp; done) | (simp; omega)) hf.1).mono ?_
          rintro e w8 ⟨v8, rfl, ho8, hb8⟩
          have hz8 := hb8.size
          (try (simp at hz8))
          obtain ⟨px0, px1⟩ := HPX.out w8 (by repeat (first | (with_reducible exact Below.refl _ _) | (with_reducible refine below_ov ?_ ?_) | (with_reducible refine Below.setCell ?_ ?_ _) | (with_reducible refine Below.alloc ?_ ?_ _) | (with_reducible refine Below.drew ?_) | (with_reducible refine below_drewN ?_ _) | (refine Below.trans ?_ (Below.mono ‹Below _ _ _› (by first | omega | (simp; done) | (simp; omega)))) | exact Below.refl _ _ | omega | (focus (simp; done)) | (focus (simp; omega))))
          go_wp2_with fail
          refine (toCell_any r c _).mono ?_
          rintro e w9 ⟨rfl, hb9⟩
          have hz9 := hb9.size
          (try (simp at hz9))
          clear px0 px1
          go_wp2_with fail
          refine (FarthestCell_impl F n r c _ _ _ _ (ho8.below (B := w8.heap.size) (by repeat (first | (with_reducible exact Below.refl _ _) | (with_reducible refine below_ov ?_ ?_) | (with_reducible refine Below.setCell ?_ ?_ _) | (with_reducible refine Below.alloc ?_ ?_ _) | (with_reducible refine Below.drew ?_) | (with_reducible refine below_drewN ?_ _) | (refine Below.trans ?_ (Below.mono ‹Below _ _ _› (by first | omega | (simp; done) | (simp; omega)))) | exact Below.refl _ _ | omega | (focus (simp; done)) | (focus (simp; omega)))) (Nat.le_refl _)).sl (by first | omega | (simp; done) | (simp; omega)) hf).mono ?_
          rintro e w10 ⟨rfl, hb10⟩
          have hz10 := hb10.size
          (try (simp at hz10))
          obtain ⟨q0, q1, qf, ql⟩ : Bx2 w10 G ((faP F n r c).1) ((faP F n r c).2) := BX.out.below (B := w6.heap.size) (by repeat (first | (with_reducible exact Below.refl _ _) | (with_reducible refine below_ov ?_ ?_) | (with_reducible refine Below.setCell ?_ ?_ _) | (with_reducible refine Below.alloc ?_ ?_ _) | (with_reducible refine Below.drew ?_) | (with_reducible refine below_drewN ?_ _) | (refine Below.trans ?_ (Below.mono ‹Below _ _ _› (by first | omega | (simp; done) | (simp; omega)))) | exact Below.refl _ _ | omega | (focus (simp; done)) | (focus (simp; omega)))) hg1
          go_wp2_with fail
          refine (eqCell_any _ _ _ _ _).mono ?_
          rintro e w11 ⟨rfl, hb11⟩
          have hz11 := hb11.size
          (try (simp at hz11))
          rw [iiE_self]
          clear q0 q1 qf ql
          go_wp2_with fail
          refine (toStringS_any F n _ _ _ _ (hS.below (B := w.heap.size) (by repeat (first | (with_reducible exact Below.refl _ _) | (with_reducible refine below_ov ?_ ?_) | (with_reducible refine Below.setCell ?_ ?_ _) | (with_reducible refine Below.alloc ?_ ?_ _) | (with_reducible refine Below.drew ?_) | (with_reducible refine below_drewN ?_ _) | (refine Below.trans ?_ (Below.mono ‹Below _ _ _› (by first | omega | (simp; done) | (simp; omega)))) | exact Below.refl _ _ | omega | (focus (simp; done)) | (focus (simp; omega)))) (Nat.le_refl _)) (by first | omega | (simp; done) | (simp; omega)) hf.1).mono ?_
          rintro e w12 ⟨v12, rfl, ho12, hb12⟩
          have hz12 := hb12.size
          (try (simp at hz12))
          go_wp2_with fail
          refine (eqStringS_any F F n n _ _ _ _ _ _ _ ((ho8.below (B := w8.heap.size) (by repeat (first | (with_reducible exact Below.refl _ _) | (with_reducible refine below_ov ?_ ?_) | (with_reducible refine Below.setCell ?_ ?_ _) | (with_reducible refine Below.alloc ?_ ?_ _) | (with_reducible refine Below.drew ?_) | (with_reducible refine below_drewN ?_ _) | (refine Below.trans ?_ (Below.mono ‹Below _ _ _› (by first | omega | (simp; done) | (simp; omega)))) | exact Below.refl _ _ | omega | (focus (simp; done)) | (focus (simp; omega)))) (Nat.le_refl _)).sl) ho12.sl (by first | omega | (simp; done) | (simp; omega)) (Nat.le_refl _) (by omega) (by omega)).mono ?_
          rintro e w13 ⟨rfl, hb13⟩
          have hz13 := hb13.size
          rw [HQF.out]
          go_wp2_with fail
          go_ret
          exact ⟨rfl, (by repeat (first | (with_reducible exact Below.refl _ _) | (with_reducible refine below_ov ?_ ?_) | (with_reducible refine Below.setCell ?_ ?_ _) | (with_reducible refine Below.alloc ?_ ?_ _) | (with_reducible refine Below.drew ?_) | (with_reducible refine below_drewN ?_ _) | (refine Below.trans ?_ (Below.mono ‹Below _ _ _› (by first | omega | (simp; done) | (simp; omega)))) | exact Below.refl _ _ | omega | (focus (simp; done)) | (focus (simp; omega))))⟩
        · obtain ⟨w4, W4⟩ : ∃ W, W = w3.alloc (.cells #[.int .i64 0, .int .i64 0] 31) := ⟨_, rfl⟩
          have hb4 : Below w3.heap.size w3 w4 := by rw [W4]; exact (Below.refl _ _).alloc (Nat.le_refl _) _
          have hz4 : w4.heap.size = w3.heap.size + 1 := by rw [W4]; simp
          have B4 : Hid (Bx2 w4 w3.heap.size 0 0) := by show Bx2 _ _ _ _; rw [W4]; exact Bx2.new w3 0 0
          have HW4 := hide W4
          have HZ4 := hide hz4
          have hz4 := Nat.le_of_eq hz4.symm
          clear W4
          refine tree_value _ (.pointer (some ⟨w3.heap.size, 0, none⟩)) w4 rfl rfl (by rw [HW4.out]; go_simp) (by repeat (first | (with_reducible exact Below.refl _ _) | (with_reducible refine below_ov ?_ ?_) | (with_reducible refine Below.setCell ?_ ?_ _) | (with_reducible refine Below.alloc ?_ ?_ _) | (with_reducible refine Below.drew ?_) | (with_reducible refine below_drewN ?_ _) | (refine Below.trans ?_ (Below.mono ‹Below _ _ _› (by first | omega | (simp; done) | (simp; omega)))) | exact Below.refl _ _ | omega | (focus (simp; done)) | (focus (simp; omega)))) ?_
          go_simp
          refine wpMT_eff ?_
          refine tree_call _ 34 #[.slice A2 n c2, .agg #[.int .i64 r, .int .i64 c]] rfl rfl (by go_simp) ?_
          refine (FarthestCell_spec F n r c _ _ _ _ (ho2.below (B := w2.heap.size) (by repeat (first | (with_reducible exact Below.refl _ _) | (with_reducible refine below_ov ?_ ?_) | (with_reducible refine Below.setCell ?_ ?_ _) | (with_reducible refine Below.alloc ?_ ?_ _) | (with_reducible refine Below.drew ?_) | (with_reducible refine below_drewN ?_ _) | (refine Below.trans ?_ (Below.mono ‹Below _ _ _› (by first | omega | (simp; done) | (simp; omega)))) | exact Below.refl _ _ | omega | (focus (simp; done)) | (focus (simp; omega)))) (Nat.le_refl _)).sl (by first | omega | (simp; done) | (simp; omega)) hf).mono ?_
          rintro e w5 ⟨rfl, hb5⟩
          have hz5 := hb5.size
          (try (simp at hz5))
          refine ⟨_, rfl, (by repeat (first | (with_reducible exact Below.refl _ _) | (with_reducible refine below_ov ?_ ?_) | (with_reducible refine Below.setCell ?_ ?_ _) | (with_reducible refine Below.alloc ?_ ?_ _) | (with_reducible refine Below.drew ?_) | (with_reducible refine below_drewN ?_ _) | (refine Below.trans ?_ (Below.mono ‹Below _ _ _› (by first | omega | (simp; done) | (simp; omega)))) | exact Below.refl _ _ | omega | (focus (simp; done)) | (focus (simp; omega)))), ?_⟩
          have B5 := hide (B4.out.below (w' := w5) hb5 (by have := B4.out.lt; exact this))
          go_simp
          refine tree_look _ _ rfl rfl (fun w' _ => BigFrame.run_move _ rfl w') ?_
          go_simp
          refine tree_look _ (.agg #[.int .i64 (faP F n r c).1, .int .i64 (faP F n r c).2]) rfl rfl (fun w' _ => (by go_simp)) ?_
          go_simp
          refine tree_look _ (.int .i64 (faN F n r c)) rfl rfl (fun w' _ => (by go_simp)) ?_
          go_simp
          refine tree_look _ (.bool (sfOk F n r c)) rfl rfl (fun w' _ => (by go_simp)) ?_
          go_simp
          obtain ⟨q0, q1, qf, ql⟩ := B5.out
          have hC6 : Below w1.heap.size w1.drew w5 := (by repeat (first | (with_reducible exact Below.refl _ _) | (with_reducible refine below_ov ?_ ?_) | (with_reducible refine Below.setCell ?_ ?_ _) | (with_reducible refine Below.alloc ?_ ?_ _) | (with_reducible refine Below.drew ?_) | (with_reducible refine below_drewN ?_ _) | (refine Below.trans ?_ (Below.mono ‹Below _ _ _› (by first | omega | (simp; done) | (simp; omega)))) | exact Below.refl _ _ | omega | (focus (simp; done)) | (focus (simp; omega))))
          obtain ⟨w6, W6⟩ : ∃ W, W = (w5.setCell ⟨w3.heap.size, 0, none⟩ (.int .i64 (faP F n r c).1)).setCell ⟨w3.heap.size, 1, none⟩ (.int .i64 (faP F n r c).2) := ⟨_, rfl⟩
          have hb6 : Below w1.heap.size w1.drew w6 := by rw [W6]; exact (hC6.setCell (by show _ ≤ w3.heap.size; have := hzd; omega) _).setCell (by show _ ≤ w3.heap.size; have := hzd; omega) _
          have hz6 : w6.heap.size = w5.heap.size := by rw [W6]; simp [World.setCell]
          have BX : Hid (Bx2 w6 (w3.heap.size) ((faP F n r c).1) ((faP F n r c).2)) := by show Bx2 _ _ _ _; rw [W6]; exact B5.out.set _ _
          have hg1 : w3.heap.size < w6.heap.size := BX.out.lt
          have HW6 := hide W6
          have hz6 := Nat.le_of_eq hz6.symm
          clear W6
          refine wpMT_eff (tree_store _ w6 rfl rfl (by rw [HW6.out]; go_simp) hb6 ?_)
          clear q0 q1 qf ql
          go_simp
          refine tree_look _ _ rfl rfl (fun w' _ => BigFrame.run_assign _ rfl w') ?_
          go_simp
          refine tree_look _ _ rfl rfl (fun w' _ => BigFrame.run_assign _ rfl w') ?_
          go_simp
          refine wpMT_nil ?_
          obtain ⟨G, HG⟩ : ∃ G : Nat, G = w3.heap.size := ⟨_, rfl⟩
          rw [← HG] at BX hg1
          (try rw [← HG])
          have HHG := hide HG
          clear HG HPC
          go_wp2_with fail
          refine (toStringS_any F n _ _ _ _ (hS.below (B := w.heap.size) (by repeat (first | (with_reducible exact Below.refl _ _) | (with_reducible refine below_ov ?_ ?_) | (with_reducible refine Below.setCell ?_ ?_ _) | (with_reducible refine Below.alloc ?_ ?_ _) | (with_reducible refine Below.drew ?_) | (with_reducible refine below_drewN ?_ _) | (refine Below.trans ?_ (Below.mono ‹Below _ _ _› (by first | omega | (simp; done) | (simp; omega)))) | exact Below.refl _ _ | omega | (focus (simp; done)) | (focus (simp; omega)))) (Nat.le_refl _)) (by first | omega | (simp; done) | (simp; omega)) hf.1).mono ?_
          rintro e w8 ⟨v8, rfl, ho8, hb8⟩
          have hz8 := hb8.size
          (try (simp at hz8))
          obtain ⟨px0, px1⟩ := HPX.out w8 (by repeat (first | (with_reducible exact Below.refl _ _) | (with_reducible refine below_ov ?_ ?_) | (with_reducible refine Below.setCell ?_ ?_ _) | (with_reducible refine Below.alloc ?_ ?_ _) | (with_reducible refine Below.drew ?_) | (with_reducible refine below_drewN ?_ _) | (refine Below.trans ?_ (Below.mono ‹Below _ _ _› (by first | omega | (simp; done) | (simp; omega)))) | exact Below.refl _ _ | omega | (focus (simp; done)) | (focus (simp; omega))))
          go_wp2_with fail
          refine (toCell_any r c _).mono ?_
          rintro e w9 ⟨rfl, hb9⟩
          have hz9 := hb9.size
          (try (simp at hz9))
          clear px0 px1
          go_wp2_with fail
          refine (FarthestCell_impl F n r c _ _ _ _ (ho8.below (B := w8.heap.size) (by repeat (first | (with_reducible exact Below.refl _ _) | (with_reducible refine below_ov ?_ ?_) | (with_reducible refine Below.setCell ?_ ?_ _) | (with_reducible refine Below.alloc ?_ ?_ _) | (with_reducible refine Below.drew ?_) | (with_reducible refine below_drewN ?_ _) | (refine Below.trans ?_ (Below.mono ‹Below _ _ _› (by first | omega | (simp; done) | (simp; omega)))) | exact Below.refl _ _ | omega | (focus (simp; done)) | (focus (simp; omega)))) (Nat.le_refl _)).sl (by first | omega | (simp; done) | (simp; omega)) hf).mono ?_
          rintro e w10 ⟨rfl, hb10⟩
          have hz10 := hb10.size
          (try (simp at hz10))
          obtain ⟨q0, q1, qf, ql⟩ : Bx2 w10 G ((faP F n r c).1) ((faP F n r c).2) := BX.out.below (B := w6.heap.size) (by repeat (first | (with_reducible exact Below.refl _ _) | (with_reducible refine below_ov ?_ ?_) | (with_reducible refine Below.setCell ?_ ?_ _) | (with_reducible refine Below.alloc ?_ ?_ _) | (with_reducible refine Below.drew ?_) | (with_reducible refine below_drewN ?_ _) | (refine Below.trans ?_ (Below.mono ‹Below _ _ _› (by first | omega | (simp; done) | (simp; omega)))) | exact Below.refl _ _ | omega | (focus (simp; done)) | (focus (simp; omega)))) hg1
          go_wp2_with fail
          refine (eqCell_any _ _ _ _ _).mono ?_
          rintro e w11 ⟨rfl, hb11⟩
          have hz11 := hb11.size
          (try (simp at hz11))
          rw [iiE_self]
          clear q0 q1 qf ql
          go_wp2_with fail
          refine (toStringS_any F n _ _ _ _ (hS.below (B := w.heap.size) (by repeat (first | (with_reducible exact Below.refl _ _) | (with_reducible refine below_ov ?_ ?_) | (with_reducible refine Below.setCell ?_ ?_ _) | (with_reducible refine Below.alloc ?_ ?_ _) | (with_reducible refine Below.drew ?_) | (with_reducible refine below_drewN ?_ _) | (refine Below.trans ?_ (Below.mono ‹Below _ _ _› (by first | omega | (simp; done) | (simp; omega)))) | exact Below.refl _ _ | omega | (focus (simp; done)) | (focus (simp; omega)))) (Nat.le_refl _)) (by first | omega | (simp; done) | (simp; omega)) hf.1).mono ?_
          rintro e w12 ⟨v12, rfl, ho12, hb12⟩
          have hz12 := hb12.size
          (try (simp at hz12))
          go_wp2_with fail
          refine (eqStringS_any F F n n _ _ _ _ _ _ _ ((ho8.below (B := w8.heap.size) (by repeat (first | (with_reducible exact Below.refl _ _) | (with_reducible refine below_ov ?_ ?_) | (with_reducible refine Below.setCell ?_ ?_ _) | (with_reducible refine Below.alloc ?_ ?_ _) | (with_reducible refine Below.drew ?_) | (with_reducible refine below_drewN ?_ _) | (refine Below.trans ?_ (Below.mono ‹Below _ _ _› (by first | omega | (simp; done) | (simp; omega)))) | exact Below.refl _ _ | omega | (focus (simp; done)) | (focus (simp; omega)))) (Nat.le_refl _)).sl) ho12.sl (by first | omega | (simp; done) | (simp; omega)) (Nat.le_refl _) (by omega) (by omega)).mono ?_
          rintro e w13 ⟨rfl, hb13⟩
          have hz13 := hb13.size
          rw [HQF.out]
          go_wp2_with fail
          go_ret
          exact ⟨rfl, (by repeat (first | (with_reducible exact Below.refl _ _) | (with_reducible refine below_ov ?_ ?_) | (with_reducible refine Below.setCell ?_ ?_ _) | (with_reducible refine Below.alloc ?_ ?_ _) | (with_reducible refine Below.drew ?_) | (with_reducible refine below_drewN ?_ _) | (refine Below.trans ?_ (Below.mono ‹Below _ _ _› (by first | omega | (simp; done) | (simp; omega)))) | exact Below.refl _ _ | omega | (focus (simp; done)) | (focus (simp; omega))))⟩
      · obtain ⟨w3, W3⟩ : ∃ W, W = w2.alloc (.cells #[.int .i64 0, .int .i64 0] 31) := ⟨_, rfl⟩
        have hb3 : Below w2.heap.size w2 w3 := by rw [W3]; exact (Below.refl _ _).alloc (Nat.le_refl _) _
        have hz3 : w3.heap.size = w2.heap.size + 1 := by rw [W3]; simp
        have B3 : Hid (Bx2 w3 w2.heap.size 0 0) := by show Bx2 _ _ _ _; rw [W3]; exact Bx2.new w2 0 0
        have HW3 := hide W3
        have HZ3 := hide hz3
        have hz3 := Nat.le_of_eq hz3.symm
        clear W3
        refine tree_value _ (.pointer (some ⟨w2.heap.size, 0, none⟩)) w3 rfl rfl (by rw [HW3.out]; go_simp) (by repeat (first | (with_reducible exact Below.refl _ _) | (with_reducible refine below_ov ?_ ?_) | (with_reducible refine Below.setCell ?_ ?_ _) | (with_reducible refine Below.alloc ?_ ?_ _) | (with_reducible refine Below.drew ?_) | (with_reducible refine below_drewN ?_ _) | (refine Below.trans ?_ (Below.mono ‹Below _ _ _› (by first | omega | (simp; done) | (simp; omega)))) | exact Below.refl _ _ | omega | (focus (simp; done)) | (focus (simp; omega)))) ?_
        go_simp
        refine wpMT_eff ?_
        refine tree_call _ 20 #[.agg #[.int .i64 r, .int .i64 c]] rfl rfl (by go_simp) ?_
        refine (toCell_any r c _).mono ?_
        rintro e w4 ⟨rfl, hb4⟩
        have hz4 := hb4.size
        (try (simp at hz4))
        refine ⟨_, rfl, (by repeat (first | (with_reducible exact Below.refl _ _) | (with_reducible refine below_ov ?_ ?_) | (with_reducible refine Below.setCell ?_ ?_ _) | (with_reducible refine Below.alloc ?_ ?_ _) | (with_reducible refine Below.drew ?_) | (with_reducible refine below_drewN ?_ _) | (refine Below.trans ?_ (Below.mono ‹Below _ _ _› (by first | omega | (simp; done) | (simp; omega)))) | exact Below.refl _ _ | omega | (focus (simp; done)) | (focus (simp; omega)))), ?_⟩
        have B4 := hide (B3.out.below (w' := w4) hb4 (by have := B3.out.lt; exact this))
        go_simp
        refine wpMT_eff ?_
        refine tree_call _ 34 #[.slice A2 n c2, .agg #[.int .i64 r, .int .i64 c]] rfl rfl (by go_simp) ?_
        refine (FarthestCell_spec F n r c _ _ _ _ (ho2.below (B := w2.heap.size) (by repeat (first | (with_reducible exact Below.refl _ _) | (with_reducible refine below_ov ?_ ?_) | (with_reducible refine Below.setCell ?_ ?_ _) | (with_reducible refine Below.alloc ?_ ?_ _) | (with_reducible refine Below.drew ?_) | (with_reducible refine below_drewN ?_ _) | (refine Below.trans ?_ (Below.mono ‹Below _ _ _› (by first | omega | (simp; done) | (simp; omega)))) | exact Below.refl _ _ | omega | (focus (simp; done)) | (focus (simp; omega)))) (Nat.le_refl _)).sl (by first | omega | (simp; done) | (simp; omega)) hf).mono ?_
        rintro e w5 ⟨rfl, hb5⟩
        have hz5 := hb5.size
        (try (simp at hz5))
        refine ⟨_, rfl, (by repeat (first | (with_reducible exact Below.refl _ _) | (with_reducible refine below_ov ?_ ?_) | (with_reducible refine Below.setCell ?_ ?_ _) | (with_reducible refine Below.alloc ?_ ?_ _) | (with_reducible refine Below.drew ?_) | (with_reducible refine below_drewN ?_ _) | (refine Below.trans ?_ (Below.mono ‹Below _ _ _› (by first | omega | (simp; done) | (simp; omega)))) | exact Below.refl _ _ | omega | (focus (simp; done)) | (focus (simp; omega)))), ?_⟩
        have B5 := hide (B4.out.below (w' := w5) hb5 (by have := B4.out.lt; exact this))
        go_simp
        refine tree_look _ _ rfl rfl (fun w' _ => BigFrame.run_move _ rfl w') ?_
        go_simp
        refine tree_look _ (.agg #[.int .i64 (faP F n r c).1, .int .i64 (faP F n r c).2]) rfl rfl (fun w' _ => (by go_simp)) ?_
        go_simp
        refine tree_look _ (.int .i64 (faN F n r c)) rfl rfl (fun w' _ => (by go_simp)) ?_
        go_simp
        refine tree_look _ (.bool (sfOk F n r c)) rfl rfl (fun w' _ => (by go_simp)) ?_
        go_simp
        obtain ⟨q0, q1, qf, ql⟩ := B5.out
        have hC6 : Below w1.heap.size w1.drew w5 := (by repeat (first | (with_reducible exact Below.refl _ _) | (with_reducible refine below_ov ?_ ?_) | (with_reducible refine Below.setCell ?_ ?_ _) | (with_reducible refine Below.alloc ?_ ?_ _) | (with_reducible refine Below.drew ?_) | (with_reducible refine below_drewN ?_ _) | (refine Below.trans ?_ (Below.mono ‹Below _ _ _› (by first | omega | (simp; done) | (simp; omega)))) | exact Below.refl _ _ | omega | (focus (simp; done)) | (focus (simp; omega))))
        obtain ⟨w6, W6⟩ : ∃ W, W = (w5.setCell ⟨w2.heap.size, 0, none⟩ (.int .i64 (faP F n r c).1)).setCell ⟨w2.heap.size, 1, none⟩ (.int .i64 (faP F n r c).2) := ⟨_, rfl⟩
        have hb6 : Below w1.heap.size w1.drew w6 := by rw [W6]; exact (hC6.setCell (by show _ ≤ w2.heap.size; have := hzd; omega) _).setCell (by show _ ≤ w2.heap.size; have := hzd; omega) _
        have hz6 : w6.heap.size = w5.heap.size := by rw [W6]; simp [World.setCell]
        have BX : Hid (Bx2 w6 (w2.heap.size) ((faP F n r c).1) ((faP F n r c).2)) := by show Bx2 _ _ _ _; rw [W6]; exact B5.out.set _ _
        have hg1 : w2.heap.size < w6.heap.size := BX.out.lt
        have HW6 := hide W6
        have hz6 := Nat.le_of_eq hz6.symm
        clear W6
        refine wpMT_eff (tree_store _ w6 rfl rfl (by rw [HW6.out]; go_simp) hb6 ?_)
        clear q0 q1 qf ql
        go_simp
        refine tree_look _ _ rfl rfl (fun w' _ => BigFrame.run_assign _ rfl w') ?_
        go_simp
        refine tree_look _ _ rfl rfl (fun w' _ => BigFrame.run_assign _ rfl w') ?_
        go_simp
        refine wpMT_nil ?_
        obtain ⟨G, HG⟩ : ∃ G : Nat, G = w2.heap.size := ⟨_, rfl⟩
        rw [← HG] at BX hg1
        (try rw [← HG])
        have HHG := hide HG
        clear HG HPC
        go_wp2_with fail
        refine (toStringS_any F n _ _ _ _ (hS.below (B := w.heap.size) (by repeat (first | (with_reducible exact Below.refl _ _) | (with_reducible refine below_ov ?_ ?_) | (with_reducible refine Below.setCell ?_ ?_ _) | (with_reducible refine Below.alloc ?_ ?_ _) | (with_reducible refine Below.drew ?_) | (with_reducible refine below_drewN ?_ _) | (refine Below.trans ?_ (Below.mono ‹Below _ _ _› (by first | omega | (simp; done) | (simp; omega)))) | exact Below.refl _ _ | omega | (focus (simp; done)) | (focus (simp; omega)))) (Nat.le_refl _)) (by first | omega | (simp; done) | (simp; omega)) hf.1).mono ?_
        rintro e w8 ⟨v8, rfl, ho8, hb8⟩
        have hz8 := hb8.size
        (try (simp at hz8))
        obtain ⟨px0, px1⟩ := HPX.out w8 (by repeat (first | (with_reducible exact Below.refl _ _) | (with_reducible refine below_ov ?_ ?_) | (with_reducible refine Below.setCell ?_ ?_ _) | (with_reducible refine Below.alloc ?_ ?_ _) | (with_reducible refine Below.drew ?_) | (with_reducible refine below_drewN ?_ _) | (refine Below.trans ?_ (Below.mono ‹Below _ _ _› (by first | omega | (simp; done) | (simp; omega)))) | exact Below.refl _ _ | omega | (focus (simp; done)) | (focus (simp; omega))))
        go_wp2_with fail
        refine (toCell_any r c _).mono ?_
        rintro e w9 ⟨rfl, hb9⟩
        have hz9 := hb9.size
        (try (simp at hz9))
        clear px0 px1
        go_wp2_with fail
        refine (FarthestCell_impl F n r c _ _ _ _ (ho8.below (B := w8.heap.size) (by repeat (first | (with_reducible exact Below.refl _ _) | (with_reducible refine below_ov ?_ ?_) | (with_reducible refine Below.setCell ?_ ?_ _) | (with_reducible refine Below.alloc ?_ ?_ _) | (with_reducible refine Below.drew ?_) | (with_reducible refine below_drewN ?_ _) | (refine Below.trans ?_ (Below.mono ‹Below _ _ _› (by first | omega | (simp; done) | (simp; omega)))) | exact Below.refl _ _ | omega | (focus (simp; done)) | (focus (simp; omega)))) (Nat.le_refl _)).sl (by first | omega | (simp; done) | (simp; omega)) hf).mono ?_
        rintro e w10 ⟨rfl, hb10⟩
        have hz10 := hb10.size
        (try (simp at hz10))
        obtain ⟨q0, q1, qf, ql⟩ : Bx2 w10 G ((faP F n r c).1) ((faP F n r c).2) := BX.out.below (B := w6.heap.size) (by repeat (first | (with_reducible exact Below.refl _ _) | (with_reducible refine below_ov ?_ ?_) | (with_reducible refine Below.setCell ?_ ?_ _) | (with_reducible refine Below.alloc ?_ ?_ _) | (with_reducible refine Below.drew ?_) | (with_reducible refine below_drewN ?_ _) | (refine Below.trans ?_ (Below.mono ‹Below _ _ _› (by first | omega | (simp; done) | (simp; omega)))) | exact Below.refl _ _ | omega | (focus (simp; done)) | (focus (simp; omega)))) hg1
        go_wp2_with fail
        refine (eqCell_any _ _ _ _ _).mono ?_
        rintro e w11 ⟨rfl, hb11⟩
        have hz11 := hb11.size
        (try (simp at hz11))
        rw [iiE_self]
        clear q0 q1 qf ql
        go_wp2_with fail
        refine (toStringS_any F n _ _ _ _ (hS.below (B := w.heap.size) (by repeat (first | (with_reducible exact Below.refl _ _) | (with_reducible refine below_ov ?_ ?_) | (with_reducible refine Below.setCell ?_ ?_ _) | (with_reducible refine Below.alloc ?_ ?_ _) | (with_reducible refine Below.drew ?_) | (with_reducible refine below_drewN ?_ _) | (refine Below.trans ?_ (Below.mono ‹Below _ _ _› (by first | omega | (simp; done) | (simp; omega)))) | exact Below.refl _ _ | omega | (focus (simp; done)) | (focus (simp; omega)))) (Nat.le_refl _)) (by first | omega | (simp; done) | (simp; omega)) hf.1).mono ?_
        rintro e w12 ⟨v12, rfl, ho12, hb12⟩
        have hz12 := hb12.size
        (try (simp at hz12))
        go_wp2_with fail
        refine (eqStringS_any F F n n _ _ _ _ _ _ _ ((ho8.below (B := w8.heap.size) (by repeat (first | (with_reducible exact Below.refl _ _) | (with_reducible refine below_ov ?_ ?_) | (with_reducible refine Below.setCell ?_ ?_ _) | (with_reducible refine Below.alloc ?_ ?_ _) | (with_reducible refine Below.drew ?_) | (with_reducible refine below_drewN ?_ _) | (refine Below.trans ?_ (Below.mono ‹Below _ _ _› (by first | omega | (simp; done) | (simp; omega)))) | exact Below.refl _ _ | omega | (focus (simp; done)) | (focus (simp; omega)))) (Nat.le_refl _)).sl) ho12.sl (by first | omega | (simp; done) | (simp; omega)) (Nat.le_refl _) (by omega) (by omega)).mono ?_
        rintro e w13 ⟨rfl, hb13⟩
        have hz13 := hb13.size
        rw [HQF.out]
        go_wp2_with fail
        go_ret
        exact ⟨rfl, (by repeat (first | (with_reducible exact Below.refl _ _) | (with_reducible refine below_ov ?_ ?_) | (with_reducible refine Below.setCell ?_ ?_ _) | (with_reducible refine Below.alloc ?_ ?_ _) | (with_reducible refine Below.drew ?_) | (with_reducible refine below_drewN ?_ _) | (refine Below.trans ?_ (Below.mono ‹Below _ _ _› (by first | omega | (simp; done) | (simp; omega)))) | exact Below.refl _ _ | omega | (focus (simp; done)) | (focus (simp; omega))))⟩
    · obtain ⟨w2, W2⟩ : ∃ W, W = w1.drew.alloc (.cells #[.int .i64 0, .int .i64 0] 31) := ⟨_, rfl⟩
      have hb2 : Below w1.drew.heap.size w1.drew w2 := by rw [W2]; exact (Below.refl _ _).alloc (Nat.le_refl _) _
      have hz2 : w2.heap.size = w1.drew.heap.size + 1 := by rw [W2]; simp
      have B2 : Hid (Bx2 w2 w1.heap.size 0 0) := by show Bx2 _ _ _ _; rw [W2]; exact Bx2.new w1.drew 0 0
      have HW2 := hide W2
      have HZ2 := hide hz2
      have hz2 := Nat.le_of_eq hz2.symm
      clear W2
      refine tree_value _ (.pointer (some ⟨w1.heap.size, 0, none⟩)) w2 rfl rfl (by rw [HW2.out]; go_simp) (by repeat (first | (with_reducible exact Below.refl _ _) | (with_reducible refine below_ov ?_ ?_) | (with_reducible refine Below.setCell ?_ ?_ _) | (with_reducible refine Below.alloc ?_ ?_ _) | (with_reducible refine Below.drew ?_) | (with_reducible refine below_drewN ?_ _) | (refine Below.trans ?_ (Below.mono ‹Below _ _ _› (by first | omega | (simp; done) | (simp; omega)))) | exact Below.refl _ _ | omega | (focus (simp; done)) | (focus (simp; omega)))) ?_
      go_simp
      refine wpMT_eff ?_
      refine tree_call _ 16 #[.slice A n cap] rfl rfl (by go_simp) ?_
      refine (toStringS_any F n _ _ _ _ (hS.below (B := w.heap.size) (by repeat (first | (with_reducible exact Below.refl _ _) | (with_reducible refine below_ov ?_ ?_) | (with_reducible refine Below.setCell ?_ ?_ _) | (with_reducible refine Below.alloc ?_ ?_ _) | (with_reducible refine Below.drew ?_) | (with_reducible refine below_drewN ?_ _) | (refine Below.trans ?_ (Below.mono ‹Below _ _ _› (by first | omega | (simp; done) | (simp; omega)))) | exact Below.refl _ _ | omega | (focus (simp; done)) | (focus (simp; omega)))) (Nat.le_refl _)) (by first | omega | (simp; done) | (simp; omega)) hf.1).mono ?_
      rintro e w3 ⟨v3, rfl, ho3, hb3⟩
      have hz3 := hb3.size
      (try (simp at hz3))
      refine ⟨_, rfl, (by repeat (first | (with_reducible exact Below.refl _ _) | (with_reducible refine below_ov ?_ ?_) | (with_reducible refine Below.setCell ?_ ?_ _) | (with_reducible refine Below.alloc ?_ ?_ _) | (with_reducible refine Below.drew ?_) | (with_reducible refine below_drewN ?_ _) | (refine Below.trans ?_ (Below.mono ‹Below _ _ _› (by first | omega | (simp; done) | (simp; omega)))) | exact Below.refl _ _ | omega | (focus (simp; done)) | (focus (simp; omega)))), ?_⟩
      obtain ⟨A3, c3, rfl, _, _⟩ := ho3.sl.open_
      have B3 := hide (B2.out.below (w' := w3) hb3 (by have := B2.out.lt; exact this))
      go_simp
      refine wpMT_eff ?_
      refine tree_call _ 20 #[.agg #[.int .i64 r, .int .i64 c]] rfl rfl (by go_simp) ?_
      refine (toCell_any r c _).mono ?_
      rintro e w4 ⟨rfl, hb4⟩
      have hz4 := hb4.size
      (try (simp at hz4))
      refine ⟨_, rfl, (by repeat (first | (with_reducible exact Below.refl _ _) | (with_reducible refine below_ov ?_ ?_) | (with_reducible refine Below.setCell ?_ ?_ _) | (with_reducible refine Below.alloc ?_ ?_ _) | (with_reducible refine Below.drew ?_) | (with_reducible refine below_drewN ?_ _) | (refine Below.trans ?_ (Below.mono ‹Below _ _ _› (by first | omega | (simp; done) | (simp; omega)))) | exact Below.refl _ _ | omega | (focus (simp; done)) | (focus (simp; omega)))), ?_⟩
      have B4 := hide (B3.out.below (w' := w4) hb4 (by have := B3.out.lt; exact this))
      go_simp
      refine wpMT_eff ?_
      refine tree_call _ 34 #[.slice A3 n c3, .agg #[.int .i64 r, .int .i64 c]] rfl rfl (by go_simp) ?_
      refine (FarthestCell_spec F n r c _ _ _ _ (ho3.below (B := w3.heap.size) (by repeat (first | (with_reducible exact Below.refl _ _) | (with_reducible refine below_ov ?_ ?_) | (with_reducible refine Below.setCell ?_ ?_ _) | (with_reducible refine Below.alloc ?_ ?_ _) | (with_reducible refine Below.drew ?_) | (with_reducible refine below_drewN ?_ _) | (refine Below.trans ?_ (Below.mono ‹Below _ _ _› (by first | omega | (simp; done) | (simp; omega)))) | exact Below.refl _ _ | omega | (focus (simp; done)) | (focus (simp; omega)))) (Nat.le_refl _)).sl (by first | omega | (simp; done) | (simp; omega)) hf).mono ?_
      rintro e w5 ⟨rfl, hb5⟩
      have hz5 := hb5.size
      (try (simp at hz5))
      refine ⟨_, rfl, (by repeat (first | (with_reducible exact Below.refl _ _) | (with_reducible refine below_ov ?_ ?_) | (with_reducible refine Below.setCell ?_ ?_ _) | (with_reducible refine Below.alloc ?_ ?_ _) | (with_reducible refine Below.drew ?_) | (with_reducible refine below_drewN ?_ _) | (refine Below.trans ?_ (Below.mono ‹Below _ _ _› (by first | omega | (simp; done) | (simp; omega)))) | exact Below.refl _ _ | omega | (focus (simp; done)) | (focus (simp; omega)))), ?_⟩
      have B5 := hide (B4.out.below (w' := w5) hb5 (by have := B4.out.lt; exact this))
      go_simp
      refine tree_look _ _ rfl rfl (fun w' _ => BigFrame.run_move _ rfl w') ?_
      go_simp
      refine tree_look _ (.agg #[.int .i64 (faP F n r c).1, .int .i64 (faP F n r c).2]) rfl rfl (fun w' _ => (by go_simp)) ?_
      go_simp
      refine tree_look _ (.int .i64 (faN F n r c)) rfl rfl (fun w' _ => (by go_simp)) ?_
      go_simp
      refine tree_look _ (.bool (sfOk F n r c)) rfl rfl (fun w' _ => (by go_simp)) ?_
      go_simp
      obtain ⟨q0, q1, qf, ql⟩ := B5.out
      have hC6 : Below w1.heap.size w1.drew w5 := (by repeat (first | (with_reducible exact Below.refl _ _) | (with_reducible refine below_ov ?_ ?_) | (with_reducible refine Below.setCell ?_ ?_ _) | (with_reducible refine Below.alloc ?_ ?_ _) | (with_reducible refine Below.drew ?_) | (with_reducible refine below_drewN ?_ _) | (refine Below.trans ?_ (Below.mono ‹Below _ _ _› (by first | omega | (simp; done) | (simp; omega)))) | exact Below.refl _ _ | omega | (focus (simp; done)) | (focus (simp; omega))))
      obtain ⟨w6, W6⟩ : ∃ W, W = (w5.setCell ⟨w1.heap.size, 0, none⟩ (.int .i64 (faP F n r c).1)).setCell ⟨w1.heap.size, 1, none⟩ (.int .i64 (faP F n r c).2) := ⟨_, rfl⟩
      have hb6 : Below w1.heap.size w1.drew w6 := by rw [W6]; exact (hC6.setCell (by show _ ≤ w1.heap.size; have := hzd; omega) _).setCell (by show _ ≤ w1.heap.size; have := hzd; omega) _
      have hz6 : w6.heap.size = w5.heap.size := by rw [W6]; simp [World.setCell]
      have BX : Hid (Bx2 w6 (w1.heap.size) ((faP F n r c).1) ((faP F n r c).2)) := by show Bx2 _ _ _ _; rw [W6]; exact B5.out.set _ _
      have hg1 : w1.heap.size < w6.heap.size := BX.out.lt
      have HW6 := hide W6
      have hz6 := Nat.le_of_eq hz6.symm
      clear W6
      refine wpMT_eff (tree_store _ w6 rfl rfl (by rw [HW6.out]; go_simp) hb6 ?_)
      clear q0 q1 qf ql
      go_simp
      refine tree_look _ _ rfl rfl (fun w' _ => BigFrame.run_assign _ rfl w') ?_
      go_simp
      refine tree_look _ _ rfl rfl (fun w' _ => BigFrame.run_assign _ rfl w') ?_
      go_simp
      refine wpMT_nil ?_
      obtain ⟨G, HG⟩ : ∃ G : Nat, G = w1.heap.size := ⟨_, rfl⟩
      rw [← HG] at BX hg1
      (try rw [← HG])
      have HHG := hide HG
      clear HG HPC
      go_wp2_with fail
      refine (toStringS_any F n _ _ _ _ (hS.below (B := w.heap.size) (by repeat (first | (with_reducible exact Below.refl _ _) | (with_reducible refine below_ov ?_ ?_) | (with_reducible refine Below.setCell ?_ ?_ _) | (with_reducible refine Below.alloc ?_ ?_ _) | (with_reducible refine Below.drew ?_) | (with_reducible refine below_drewN ?_ _) | (refine Below.trans ?_ (Below.mono ‹Below _ _ _› (by first | omega | (simp; done) | (simp; omega)))) | exact Below.refl _ _ | omega | (focus (simp; done)) | (focus (simp; omega)))) (Nat.le_refl _)) (by first | omega | (simp; done) | (simp; omega)) hf.1).mono ?_
      rintro e w8 ⟨v8, rfl, ho8, hb8⟩
      have hz8 := hb8.size
      (try (simp at hz8))
      obtain ⟨px0, px1⟩ := HPX.out w8 (by repeat (first | (with_reducible exact Below.refl _ _) | (with_reducible refine below_ov ?_ ?_) | (with_reducible refine Below.setCell ?_ ?_ _) | (with_reducible refine Below.alloc ?_ ?_ _) | (with_reducible refine Below.drew ?_) | (with_reducible refine below_drewN ?_ _) | (refine Below.trans ?_ (Below.mono ‹Below _ _ _› (by first | omega | (simp; done) | (simp; omega)))) | exact Below.refl _ _ | omega | (focus (simp; done)) | (focus (simp; omega))))
      go_wp2_with fail
      refine (toCell_any r c _).mono ?_
      rintro e w9 ⟨rfl, hb9⟩
      have hz9 := hb9.size
      (try (simp at hz9))
      clear px0 px1
      go_wp2_with fail
      refine (FarthestCell_impl F n r c _ _ _ _ (ho8.below (B := w8.heap.size) (by repeat (first | (with_reducible exact Below.refl _ _) | (with_reducible refine below_ov ?_ ?_) | (with_reducible refine Below.setCell ?_ ?_ _) | (with_reducible refine Below.alloc ?_ ?_ _) | (with_reducible refine Below.drew ?_) | (with_reducible refine below_drewN ?_ _) | (refine Below.trans ?_ (Below.mono ‹Below _ _ _› (by first | omega | (simp; done) | (simp; omega)))) | exact Below.refl _ _ | omega | (focus (simp; done)) | (focus (simp; omega)))) (Nat.le_refl _)).sl (by first | omega | (simp; done) | (simp; omega)) hf).mono ?_
      rintro e w10 ⟨rfl, hb10⟩
      have hz10 := hb10.size
      (try (simp at hz10))
      obtain ⟨q0, q1, qf, ql⟩ : Bx2 w10 G ((faP F n r c).1) ((faP F n r c).2) := BX.out.below (B := w6.heap.size) (by repeat (first | (with_reducible exact Below.refl _ _) | (with_reducible refine below_ov ?_ ?_) | (with_reducible refine Below.setCell ?_ ?_ _) | (with_reducible refine Below.alloc ?_ ?_ _) | (with_reducible refine Below.drew ?_) | (with_reducible refine below_drewN ?_ _) | (refine Below.trans ?_ (Below.mono ‹Below _ _ _› (by first | omega | (simp; done) | (simp; omega)))) | exact Below.refl _ _ | omega | (focus (simp; done)) | (focus (simp; omega)))) hg1
      go_wp2_with fail
      refine (eqCell_any _ _ _ _ _).mono ?_
      rintro e w11 ⟨rfl, hb11⟩
      have hz11 := hb11.size
      (try (simp at hz11))
      rw [iiE_self]
      clear q0 q1 qf ql
      go_wp2_with fail
      refine (toStringS_any F n _ _ _ _ (hS.below (B := w.heap.size) (by repeat (first | (with_reducible exact Below.refl _ _) | (with_reducible refine below_ov ?_ ?_) | (with_reducible refine Below.setCell ?_ ?_ _) | (with_reducible refine Below.alloc ?_ ?_ _) | (with_reducible refine Below.drew ?_) | (with_reducible refine below_drewN ?_ _) | (refine Below.trans ?_ (Below.mono ‹Below _ _ _› (by first | omega | (simp; done) | (simp; omega)))) | exact Below.refl _ _ | omega | (focus (simp; done)) | (focus (simp; omega)))) (Nat.le_refl _)) (by first | omega | (simp; done) | (simp; omega)) hf.1).mono ?_
      rintro e w12 ⟨v12, rfl, ho12, hb12⟩
      have hz12 := hb12.size
      (try (simp at hz12))
      go_wp2_with fail
      refine (eqStringS_any F F n n _ _ _ _ _ _ _ ((ho8.below (B := w8.heap.size) (by repeat (first | (with_reducible exact Below.refl _ _) | (with_reducible refine below_ov ?_ ?_) | (with_reducible refine Below.setCell ?_ ?_ _) | (with_reducible refine Below.alloc ?_ ?_ _) | (with_reducible refine Below.drew ?_) | (with_reducible refine below_drewN ?_ _) | (refine Below.trans ?_ (Below.mono ‹Below _ _ _› (by first | omega | (simp; done) | (simp; omega)))) | exact Below.refl _ _ | omega | (focus (simp; done)) | (focus (simp; omega)))) (Nat.le_refl _)).sl) ho12.sl (by first | omega | (simp; done) | (simp; omega)) (Nat.le_refl _) (by omega) (by omega)).mono ?_
      rintro e w13 ⟨rfl, hb13⟩
      have hz13 := hb13.size
      rw [HQF.out]
      go_wp2_with fail
      go_ret
      exact ⟨rfl, (by repeat (first | (with_reducible exact Below.refl _ _) | (with_reducible refine below_ov ?_ ?_) | (with_reducible refine Below.setCell ?_ ?_ _) | (with_reducible refine Below.alloc ?_ ?_ _) | (with_reducible refine Below.drew ?_) | (with_reducible refine below_drewN ?_ _) | (refine Below.trans ?_ (Below.mono ‹Below _ _ _› (by first | omega | (simp; done) | (simp; omega)))) | exact Below.refl _ _ | omega | (focus (simp; done)) | (focus (simp; omega))))⟩

set_option maxRecDepth 100000 in
theorem FnExactFarthestCell_lifted (os : Os) (started : os.Started) (H : Type) (enc : TypeId × Value → H) :
    ReturnsInHanded {} Tryd.checked os 8 .any (fun w args => (Rows.fnExactFarthestCellSpec.pre enc Tryd.prog Tryd.f8 Rows.fnExactFarthestCellRow.domain false w args ∧ laidMetH Tryd.prog Rows.fnExactFarthestCellRow.laid w) ∧ sizedMet enc Tryd.prog Tryd.f8 (OpenSpec.ofChange Rows.fnExactFarthestCellSpec) false w args) (Rows.fnExactFarthestCellSpec.post enc Tryd.prog Tryd.f8 false true false false) := by
  refine returnsInHanded_of_change_and (C := Tryd.checked) (X := fun w _ => laidMetH Tryd.prog Rows.fnExactFarthestCellRow.laid w) (fun _ _ _ hh h => h.of_heap hh) Tryd.own started (by kernel_rfl) Tryd.func8
    (ChangeSpec.witness_shaped (enc := enc) (C := Tryd.checked) (os := os) (X := fun w _ => laidMetH Tryd.prog Rows.fnExactFarthestCellRow.laid w) false (World.laidAll Tryd.prog os Rows.fnExactFarthestCellRow.laid) #[.slice none 0 0, .agg #[.int .i64 0, .int .i64 0]] 8 (World.laidAll_os _ _ _)
      (World.shaped_of_ZipB (by kernel_rfl) (by kernel_rfl)) (by kernel_rfl) (by kernel_rfl) (by kernel_rfl)
      (by rw [MakeChecks.laidMetH_plain _ _ _ (by kernel_rfl)]; exact laidMet_laidAll _ (by kernel_rfl) (by kernel_rfl))) ?_
  intro W base args ds gs before hval0 hW _ hsz hL _
  have hval : ∀ (j : Nat) t v, Tryd.f8.params[j]? = some t → args[j]? = some v → Value.okWide Tryd.prog W .any base t v := hval0
  have hW' := hW
  obtain ⟨p, q, hA0, hV, rfl, hfz, hnd⟩ := hW
  have hA : DataW.TrodAll enc Tryd.prog W 0 (fun _ => true) true Tryd.f8.params.toList args.toList ds p := hA0
  rw [Tryd.params8] at hA hval
  obtain ⟨v0, vs0, d0, ds0, p0, q0, hargs, rfl, rfl, h0, r0⟩ := trodAll_cons hA
  obtain ⟨v1, vs1, d1, ds1, p1, q1, rfl, rfl, rfl, h1, r1⟩ := trodAll_cons r0
  obtain ⟨rfl, rfl, rfl⟩ := trodAll_nil r1
  obtain rfl : args = #[v0, v1] := by cases args; simp_all
  obtain ⟨rfl, rfl⟩ := trodVars_none hV
  have hend : ∀ W', Below W.heap.size W W' → Rows.fnExactFarthestCellSpec.post enc Tryd.prog Tryd.f8 false true false false W #[v0, v1] (.bool true) W' := fun W' hb =>
    law_post (T := 4) Tryd.laidOut rfl (by kernel_rfl) rfl Tryd.underlying4 hW' rfl hb
  clear hW' hA0 hval0
  obtain ⟨A, n, cap, F, rfl, hk0, hm0, hA0⟩ := openString (hval 0 _ v0 rfl rfl) h0
  obtain ⟨c1_0, c1_1, y1_0, y1_1, m1, rfl, rfl, rfl, hy1_0, hy1_1⟩ := open_agg2 Tryd.underlying28 (by kernel_rfl) Tryd.cells28 (hval 1 _ v1 rfl rfl) h1
  obtain ⟨r, e1_0, rfl, wf1_0⟩ := DataW.trod_int Tryd.underlying3 hy1_0
  obtain ⟨c, e1_1, rfl, wf1_1⟩ := DataW.trod_int Tryd.underlying3 hy1_1
  simp at e1_0 e1_1
  subst e1_0 e1_1
  refine (FnExactFarthestCell_walk A n cap F r c W hk0 hm0 hA0.1 hA0.2).mono fun e W' ⟨he, hb⟩ => ?_
  subst he
  exact ⟨_, rfl, hend W' hb⟩
/-- The statement. -/
theorem FnExactFarthestCell_holds : Rows.FnExactFarthestCellSaid :=
  OpenClaim.holds_of_wide 8 Tryd.f8 rfl rfl rfl rfl rfl rfl rfl ⟨rfl, rfl, rfl, rfl, rfl⟩ rfl rfl rfl rfl rfl (by kernel_rfl) Tryd.func8 (show joinedFacts Tryd.prog 8 Tryd.f8 Rows.fnExactFarthestCellSpec Rows.fnExactFarthestCellRow = true from by unfold joinedFacts; rw [Tryd.heard, Tryd.enters, Tryd.lifts, Tryd.laidOut, Tryd.rowed, Tryd.made]; kernel_rfl)
    (of_decide_eq_true (by kernel_rfl)) (by unfold Func.isWrapper; first | (rw [if_pos (by decide +kernel)]; kernel_rfl) | (rw [if_neg (by decide +kernel)]; exact ⟨rfl, rfl⟩))
    (fun os started H enc _ => FnExactFarthestCell_lifted os started H enc)
#print axioms FnExactFarthestCell_holds
/-- The tied card. -/
theorem FnExactFarthestCell_card : Rows.FnExactFarthestCellCardSaid :=
  Claim7.holds_tied_plain_at .later [] [.data, .pinned] true (true, "fec49d8f61669c89eab47b26e3ad606c1755da3616938e0eb563ff8b18fed253") false FnExactFarthestCell_holds (fun _ h => by cases h) (by kernel_rfl) (fun _ h => by cases h) fnExactFarthestCell_row_tie rfl ⟨rfl, rfl⟩ Tryd.mainIs0 rfl
    (fun f fn hf hfn => by
      obtain rfl : f = 8 := Option.some.inj ((show Tryd.prog.funcNamed "loop.example/g01020/laws.FnExactFarthestCell" = some 8 by kernel_rfl).symm.trans hf) |>.symm
      obtain rfl : fn = Tryd.f8 := (Option.some.inj (Tryd.func8.symm.trans hfn)).symm
      exact ⟨Tryd.looks0, fun j t ht => by
        have hall : (Tryd.f8.params.toList.all fun u => !Tryd.prog.wantsStandIn u) = true := by kernel_rfl
        have hm : t ∈ Tryd.f8.params.toList := by simpa using Array.mem_of_getElem? ht
        exact (show Tryd.prog.wantsStandIn t = false by simpa using List.all_eq_true.1 hall t hm)⟩)
    (by kernel_rfl)
#print axioms FnExactFarthestCell_card

end Go.Proofs.YtigdalaeopemiaaDoor
