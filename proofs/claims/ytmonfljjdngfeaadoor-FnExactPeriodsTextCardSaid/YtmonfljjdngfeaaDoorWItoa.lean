/-
  Walks: numbers in decimal: the reference's and the library's.
-/
import Derived.Test.YtmonfljjdngfeaaDoorWName
import Derived.Test.YtmonfljjdngfeaaDoorMix3
import Derived.Laws.BytesArg
import Derived.Shelf.Lay
import Derived.Shelf.LaysM
import Derived.Shelf.Strconv.Itoa3
import Derived.Lib.AppendIntMem
import Derived.Lib.SmallJoins
namespace Go.Proofs
open Go.RowKit Go.Shelf
shelf_lay LaysM.n171 Nm 171 at Tryd as YtmonfljjdngfeaaDoor.laysItoa
end Go.Proofs
namespace Go.Proofs.YtmonfljjdngfeaaDoor
set_option linter.unusedVariables false
set_option linter.unusedSimpArgs false
open Go.RowKit Go.Shelf

/-- A number's decimal text. -/
def dD (k : Nat) : ByteArray := ⟨(Lib.decDigits k).toArray⟩
theorem dD_small {k : Nat} (h : k < 10) : strOfNums [48 + (k : Int)] = dD k := by
  rw [dD, Lib.decDigits_one h, strOfNums]
  congr 2
theorem dD_step {k : Nat} (h : ¬ k < 10) : dD (k / 10) ++ strOfNums [48 + (k : Int) % 10] = dD k := by
  rw [dD, dD, Lib.decDigits.eq_1 k, dif_neg h]
  have e : (48 + (k : Int) % 10).toNat = 48 + k % 10 := by omega
  apply ByteArray.ext
  rw [ByteArray.data_append]
  simp [strOfNums, e]
theorem dD_size : ∀ k : Nat, (dD k).size ≤ k + 1 := by
  intro k
  induction k using Nat.strongRecOn with
  | _ k ih =>
    by_cases h : k < 10
    · rw [← dD_small h, strOfNums_size]; simp
    · rw [← dD_step h, ByteArray.size_append, strOfNums_size]
      have := ih (k / 10) (by omega)
      simp
      omega

theorem pow10_named : Tryd.prog.globalNamed "internal/strconv.uint64pow10" = some 0 := by kernel_rfl
/-- The library's table of powers. -/
def Tab (w : World) : Prop := Lib.TabIs Tryd.prog w "internal/strconv.uint64pow10" .u64 Lib.pow10Tab
theorem Tab.below {w w' : World} {B : Nat} (h : Tab w) (hb : Below B w w') (hB : w.heap.size ≤ B) : Tab w' := Joins.tab_stays pow10_named h hb hB
theorem Itoa_any (k : Nat) (w : World) (hk : k ≤ 1000000) (ht : Tab w) :
    Calls Tryd.prog 21 #[.int .i64 k] w fun e w' => e = .returned (.string (dD k)) ∧ Below w.heap.size w w' :=
  (Any.strconv_Itoa YtmonfljjdngfeaaDoor.laysItoa k (by omega) (by omega) w ht).mono fun e w' ⟨he, m, os, hw⟩ => ⟨by rw [he, Lib.itoa_nonneg]; rfl, by rw [hw]; exact Lib.below_grow _ _ (Nat.le_refl _) _ _⟩
set_option maxRecDepth 100000 in
set_option maxHeartbeats 1600000 in
theorem l1Num_any (k : Nat) : ∀ (w : World), k ≤ 1000000 →
    Calls Tryd.prog 11 #[.int .i64 k] w fun e w' => e = .returned (.string (dD k)) ∧ Below w.heap.size w w' := by
  induction k using Nat.strongRecOn with
  | _ k ih =>
    intro w hk
    have hcv : ∀ (W : World) (n : Int), (convert 40 9 (.slice (some ⟨W.heap.size, 0, none⟩) 1 1)).run Tryd.prog (W.alloc (.cells #[.int .u8 n] 5)) = .ok (.string (strOfNums [n])) (W.alloc (.cells #[.int .u8 n] 5)) := fun W n =>
      run_convert_bytes_arg _ 40 5 Tryd.underlying40 Tryd.underlying5 W.heap.size 0 1 1 [n] rfl (fun i hi => by
        obtain rfl : i = 0 := by omega
        exact World.cell?_alloc_new _ _ _ _) 9 Tryd.underlying9
    by_cases h : k < 10
    · have HD := hide (dD_small h)
      go_enter Tryd.func11, Tryd.ntmps11
      go_wp2_with fail
      go_ret
      rw [HD.out]
      exact ⟨rfl, (by repeat (first | (with_reducible exact Below.refl _ _) | (with_reducible refine below_ov ?_ ?_) | (with_reducible refine Below.setCell ?_ ?_ _) | (with_reducible refine Below.alloc ?_ ?_ _) | (with_reducible refine Below.drew ?_) | (with_reducible refine below_drewN ?_ _) | (refine Below.trans ?_ (Below.mono ‹Below _ _ _› (by first | omega | (simp; done) | (simp; omega)))) | exact Below.refl _ _ | omega | (focus (simp; done)) | (focus (simp; omega))))⟩
    · have hs1 := dD_size (k / 10)
      have hd := dD_step h
      have hsz : ¬ 9223372036854775807 < (dD (k / 10)).size + (strOfNums [48 + (k : Int) % 10]).size := by rw [strOfNums_size]; simp; omega
      have hcg : ∀ (W : World) (g : Nat), W.cell? ⟨g, 0, none⟩ = some (.int .u8 (48 + (k : Int) % 10)) → (convert 40 9 (.slice (some ⟨g, 0, none⟩) 1 1)).run Tryd.prog W = .ok (.string (strOfNums [48 + (k : Int) % 10])) W := fun W g hc =>
        run_convert_bytes_arg _ 40 5 Tryd.underlying40 Tryd.underlying5 g 0 1 1 [48 + (k : Int) % 10] rfl (fun i hi => by
          obtain rfl : i = 0 := by omega
          exact hc) 9 Tryd.underlying9
      obtain ⟨D, hD⟩ : ∃ D, D = strOfNums [48 + (k : Int) % 10] := ⟨_, rfl⟩
      rw [← hD] at hd hsz
      simp only [← hD] at hcg
      have HD := hide hd
      have HCG := hide hcg
      clear hcg hcv hD hd
      have z1 : IntKind.i64.wrap ((k : Int) / 10) = (k : Int) / 10 := IntWalk.i64_in _ (by omega)
      have z2 : (k : Int).tmod 10 = (k : Int) % 10 := Int.tmod_eq_emod_of_nonneg (by omega)
      have z3 : IntKind.i64.wrap (48 + (k : Int) % 10) = 48 + (k : Int) % 10 := IntWalk.i64_in _ (by omega)
      have z4 : IntKind.u8.wrap (48 + (k : Int) % 10) = 48 + (k : Int) % 10 := by
        have : 0 ≤ 48 + (k : Int) % 10 ∧ 48 + (k : Int) % 10 < 256 := by omega
        rw [IntKind.wrap_u8]; omega
      go_enter Tryd.func11, Tryd.ntmps11
      go_wp2_with fail
      have hb0 : Below w.heap.size w w.drew := Below.drew (Below.refl _ _)
      refine wp_region_tree (.step 0 true (.step 1 true (.step 3 true (.step 4 true (.step 5 true (.step 6 true (.fork 2 (.step 7 false (.step 8 false (.step 9 true (.step 10 true .nil)))) 7 (.fork 2 (.step 8 false (.step 9 true (.step 10 true .nil))) 8 (.step 2 false (.step 9 true (.step 10 true .nil))))))))))) (fun W => Below w.heap.size w W) (by kernel_rfl) (by kernel_rfl) (by kernel_rfl) (by kernel_rfl) hb0 ?_
      refine tree_look _ _ rfl rfl (fun w' _ => BigFrame.run_move _ rfl w') ?_
      go_simp
      refine tree_look _ (.int .i64 ((k / 10 : Nat) : Int)) rfl rfl (fun w' _ => (by go_simp)) ?_
      go_simp
      refine tree_look _ _ rfl rfl (fun w' _ => BigFrame.run_move _ rfl w') ?_
      go_simp
      refine tree_look _ (.int .i64 ((k : Int) % 10)) rfl rfl (fun w' _ => (by go_simp)) ?_
      go_simp
      refine tree_look _ (.int .i64 (48 + (k : Int) % 10)) rfl rfl (fun w' _ => (by go_simp)) ?_
      go_simp
      refine tree_look _ (.int .u8 (48 + (k : Int) % 10)) rfl rfl (fun w' _ => (by go_simp)) ?_
      go_simp
      refine wpMT_fork ?_ ?_
      · refine tree_calls _ 11 #[.int .i64 ((k / 10 : Nat) : Int)] rfl rfl (by go_simp) ?_
        refine (ih (k / 10) (by omega) _ (by omega)).mono ?_
        rintro e w1 ⟨rfl, hb1⟩
        have hz1 := hb1.size
        have hB1 : Below w.heap.size w w1 := hb0.trans (hb1.mono hb0.size)
        refine ⟨_, rfl, hB1, ?_⟩
        go_simp
        obtain ⟨w2, hw2⟩ : ∃ W, W = w1.alloc (.cells #[.int .u8 (48 + (k : Int) % 10)] 5) := ⟨_, rfl⟩
        have hB2 : Below w.heap.size w w2 := by rw [hw2]; exact hB1.alloc hB1.size _
        have hn2 : Below w1.heap.size w1 w2 := by rw [hw2]; exact (Below.refl _ _).alloc (Nat.le_refl _) _
        have HCV : Hid (w2.cell? ⟨w1.heap.size, 0, none⟩ = some (.int .u8 (48 + (k : Int) % 10))) := by show _ = _; rw [hw2]; exact World.cell?_alloc_new _ _ _ _
        have hl2 : w1.heap.size < w2.heap.size := by rw [hw2]; simp
        have HW2 := hide hw2
        clear hw2
        refine wpMT_eff (tree_value _ (.slice (some ⟨w1.heap.size, 0, none⟩) 1 1) w2 rfl rfl (by rw [HW2.out]; go_simp) hB2 ?_)
        go_simp
        refine wpMT_eff (tree_value _ (.string D) w2 rfl rfl (by have hx := HCG.out w2 _ (HCV.out); go_simp) hB2 ?_)
        go_simp
        refine tree_look _ (.string (dD (k / 10) ++ D)) rfl rfl (fun w' _ => (by go_simp)) ?_
        go_simp
        refine tree_look _ _ rfl rfl (fun w' _ => BigFrame.run_assign _ rfl w') ?_
        go_simp
        refine wpMT_nil ?_
        go_wp2_with fail
        go_ret
        rw [HD.out]
        exact ⟨rfl, hB2⟩
      · obtain ⟨w2, hw2⟩ : ∃ W, W = w.drew.alloc (.cells #[.int .u8 (48 + (k : Int) % 10)] 5) := ⟨_, rfl⟩
        have hB2 : Below w.heap.size w w2 := by rw [hw2]; exact hb0.alloc hb0.size _
        have hn2 : Below w.drew.heap.size w.drew w2 := by rw [hw2]; exact (Below.refl _ _).alloc (Nat.le_refl _) _
        have HCV : Hid (w2.cell? ⟨w.heap.size, 0, none⟩ = some (.int .u8 (48 + (k : Int) % 10))) := by show _ = _; rw [hw2]; exact World.cell?_alloc_new _ _ _ _
        have hl2 : w.drew.heap.size < w2.heap.size := by rw [hw2]; simp
        have HW2 := hide hw2
        clear hw2
        refine (tree_value _ (.slice (some ⟨w.heap.size, 0, none⟩) 1 1) w2 rfl rfl (by rw [HW2.out]; go_simp) hB2 ?_)
        go_simp
        refine wpMT_fork ?_ ?_
        · refine tree_calls _ 11 #[.int .i64 ((k / 10 : Nat) : Int)] rfl rfl (by go_simp) ?_
          refine (ih (k / 10) (by omega) _ (by omega)).mono ?_
          rintro e w1 ⟨rfl, hb1⟩
          have hz1 := hb1.size
          have hB1 : Below w.heap.size w w1 := hB2.trans (hb1.mono hB2.size)
          refine ⟨_, rfl, hB1, ?_⟩
          go_simp
          refine wpMT_eff (tree_value _ (.string D) w1 rfl rfl (by have hx := HCG.out w1 _ ((hb1.cell (p := ⟨w.heap.size, 0, none⟩) hl2).trans HCV.out); go_simp) hB1 ?_)
          go_simp
          refine tree_look _ (.string (dD (k / 10) ++ D)) rfl rfl (fun w' _ => (by go_simp)) ?_
          go_simp
          refine tree_look _ _ rfl rfl (fun w' _ => BigFrame.run_assign _ rfl w') ?_
          go_simp
          refine wpMT_nil ?_
          go_wp2_with fail
          go_ret
          rw [HD.out]
          exact ⟨rfl, hB1⟩
        · refine (tree_value _ (.string D) w2 rfl rfl (by have hx := HCG.out w2 _ (HCV.out); go_simp) hB2 ?_)
          go_simp
          refine wpMT_eff ?_
          refine tree_calls _ 11 #[.int .i64 ((k / 10 : Nat) : Int)] rfl rfl (by go_simp) ?_
          refine (ih (k / 10) (by omega) _ (by omega)).mono ?_
          rintro e w1 ⟨rfl, hb1⟩
          have hz1 := hb1.size
          have hB1 : Below w.heap.size w w1 := hB2.trans (hb1.mono hB2.size)
          refine ⟨_, rfl, hB1, ?_⟩
          go_simp
          refine tree_look _ (.string (dD (k / 10) ++ D)) rfl rfl (fun w' _ => (by go_simp)) ?_
          go_simp
          refine tree_look _ _ rfl rfl (fun w' _ => BigFrame.run_assign _ rfl w') ?_
          go_simp
          refine wpMT_nil ?_
          go_wp2_with fail
          go_ret
          rw [HD.out]
          exact ⟨rfl, hB1⟩

end Go.Proofs.YtmonfljjdngfeaaDoor
