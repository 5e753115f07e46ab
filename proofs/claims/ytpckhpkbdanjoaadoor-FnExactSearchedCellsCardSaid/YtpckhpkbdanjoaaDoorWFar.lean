/-
  Walks: the farthest cell: the program's and the reference's.
-/
import Derived.Test.YtpckhpkbdanjoaaDoorWFol2
import Derived.Shelf.Slices.Turned
namespace Go.Proofs
open Go.RowKit Go.Shelf
shelf_lay Lays.n113 Nm 113 at Tryd as YtpckhpkbdanjoaaDoor.laysMax
shelf_lay Lays.n108 Nm 108 at Tryd as YtpckhpkbdanjoaaDoor.laysIndex
end Go.Proofs
namespace Go.Proofs.YtpckhpkbdanjoaaDoor
set_option linter.unusedVariables false
set_option linter.unusedSimpArgs false
open Go.RowKit Go.Shelf

/-- The greatest of the first k numbers and its first place. -/
def mxF (o : Nat → Int) : Nat → Int × Nat
  | 0 => (-1, 0)
  | k + 1 => if (mxF o k).1 < o k then (o k, k) else mxF o k
def mxL (o : Nat → Int) (N : Nat) : List Int := (List.range N).map o
theorem mxL_len (o : Nat → Int) (N : Nat) : (mxL o N).length = N := by simp [mxL]
theorem mxL_get (o : Nat → Int) {N j : Nat} (h : j < N) : (mxL o N).getD j 0 = o j := by simp [mxL, h]
theorem mxF_spec {o : Nat → Int} {N : Nat} (hb : ∀ i, -1 ≤ o i) : ∀ k, k < N → (mxF o (k + 1)).2 < k + 1 ∧ (mxF o (k + 1)).1 = o (mxF o (k + 1)).2 ∧ (∀ j, j < (mxF o (k + 1)).2 → o j < (mxF o (k + 1)).1) ∧ (∀ j, j < k + 1 → o j ≤ (mxF o (k + 1)).1) ∧ Lib.maxOf ((mxL o N).take (k + 1)) = (mxF o (k + 1)).1
  | 0, hN => by
    have h0 := hb 0
    have e : mxF o 1 = if (-1 : Int) < o 0 then (o 0, 0) else (-1, 0) := rfl
    have m1 : Lib.maxOf ((mxL o N).take (0 + 1)) = o 0 := by rw [Nat.zero_add, Lib.maxOf_one, mxL_get o hN]
    rw [m1]
    show (mxF o 1).2 < _ ∧ _
    rw [e]
    by_cases h : (-1 : Int) < o 0
    · rw [if_pos h]
      refine ⟨by show 0 < 0 + 1; omega, rfl, fun j hj => absurd hj (Nat.not_lt_zero _), fun j hj => ?_, rfl⟩
      obtain rfl : j = 0 := by omega
      exact Int.le_refl _
    · rw [if_neg h]
      refine ⟨by show 0 < 0 + 1; omega, by show (-1 : Int) = o 0; omega, fun j hj => absurd hj (Nat.not_lt_zero _), fun j hj => ?_, by show o 0 = -1; omega⟩
      obtain rfl : j = 0 := by omega
      show o 0 ≤ -1
      omega
  | k + 1, hN => by
    obtain ⟨h1, h2, h3, h4, h5⟩ := mxF_spec (N := N) hb k (by omega)
    have e : mxF o (k + 1 + 1) = if (mxF o (k + 1)).1 < o (k + 1) then (o (k + 1), k + 1) else mxF o (k + 1) := rfl
    have m := Lib.maxOf_step (mxL o N) (k + 1) (by omega) (by rw [mxL_len]; omega)
    rw [h5, mxL_get o hN] at m
    rw [m, e]
    by_cases h : (mxF o (k + 1)).1 < o (k + 1)
    · rw [if_pos h]
      refine ⟨by show k + 1 < _; omega, rfl, fun j hj => ?_, fun j hj => ?_, by show max _ _ = o (k + 1); omega⟩
      · exact Int.lt_of_le_of_lt (h4 j hj) h
      · rcases Nat.lt_succ_iff_lt_or_eq.1 hj with hj | rfl
        · exact Int.le_trans (h4 j hj) (Int.le_of_lt h)
        · exact Int.le_refl _
    · rw [if_neg h]
      refine ⟨by omega, h2, h3, fun j hj => ?_, by omega⟩
      rcases Nat.lt_succ_iff_lt_or_eq.1 hj with hj | rfl
      · exact h4 j hj
      · omega
theorem mxF_all {o : Nat → Int} {N : Nat} (hb : ∀ i, -1 ≤ o i) (hN : 0 < N) : (mxF o N).2 < N ∧ Lib.maxOf ((mxL o N).take N) = (mxF o N).1 ∧ Lib.idxOf ((mxL o N).take N) (mxF o N).1 = (mxF o N).2 := by
  obtain ⟨k, rfl⟩ : ∃ k, N = k + 1 := ⟨N - 1, by omega⟩
  obtain ⟨h1, h2, h3, _, h5⟩ := mxF_spec (N := k + 1) hb k (by omega)
  refine ⟨h1, h5, Lib.idxOf_hit _ _ _ _ h1 (by rw [mxL_len]; omega) ?_ fun j hj => ?_⟩
  · rw [mxL_get o h1]
    exact h2.symm
  · have := h3 j hj
    rw [mxL_get o (by omega)]
    omega
theorem mxF_bd {o : Nat → Int} {B : Int} (hb : ∀ i, -1 ≤ o i ∧ o i ≤ B) (hB : -1 ≤ B) : ∀ k, -1 ≤ (mxF o k).1 ∧ (mxF o k).1 ≤ B ∧ (mxF o k).2 ≤ k
  | 0 => ⟨Int.le_refl _, hB, Nat.le_refl _⟩
  | k + 1 => by
    obtain ⟨a, b, c⟩ := mxF_bd hb hB k
    rw [mxF]
    split
    · exact ⟨(hb k).1, (hb k).2, Nat.le_succ _⟩
    · exact ⟨a, b, Nat.le_succ_of_le c⟩
def faK (F : Nat → ByteArray) (n : Nat) (r c : Int) : Int × Nat := mxF (stF F n (r, c)) (n * (F 0).size)
def faP (F : Nat → ByteArray) (n : Nat) (r c : Int) : Int × Int := if sfOk F n r c = true then (((faK F n r c).2 : Int) / ((F 0).size : Int), ((faK F n r c).2 : Int) % ((F 0).size : Int)) else (0, 0)
def faN (F : Nat → ByteArray) (n : Nat) (r c : Int) : Int := if sfOk F n r c = true then (faK F n r c).1 else 0
/-- What the call hands back. -/
def FaRes (F : Nat → ByteArray) (n : Nat) (r c : Int) (w : World) (e : Ending) (w' : World) : Prop := e = .returned (.tuple #[.agg #[.int .i64 (faP F n r c).1, .int .i64 (faP F n r c).2], .int .i64 (faN F n r c), .bool (sfOk F n r c)]) ∧ Below w.heap.size w w'
theorem fa_nil {F : Nat → ByteArray} {n : Nat} {r c : Int} {w w' : World} (h : sfOk F n r c = false) (hb : Below w.heap.size w w') : FaRes F n r c w (.returned (.tuple #[.agg #[.int .i64 0, .int .i64 0], .int .i64 0, .bool false])) w' :=
  ⟨by rw [faP, faN, h]; rfl, hb⟩
theorem fa_at {F : Nat → ByteArray} {n : Nat} {r c : Int} {w w' : World} {m : Int} {k : Nat} (h : sfOk F n r c = true) (hk : faK F n r c = (m, k)) (hb : Below w.heap.size w w') : FaRes F n r c w (.returned (.tuple #[.agg #[.int .i64 ((k : Int) / ((F 0).size : Int)), .int .i64 ((k : Int) % ((F 0).size : Int))], .int .i64 m, .bool true])) w' :=
  ⟨by rw [faP, faN, if_pos h, if_pos h, hk, h], hb⟩
theorem div_in (k W : Nat) (hk : k ≤ 1000) : IntKind.i64.wrap ((k : Int) / (W : Int)) = (k : Int) / (W : Int) ∧ IntKind.i64.wrap ((k : Int) % (W : Int)) = (k : Int) % (W : Int) := by
  have h1 : (k : Int) / (W : Int) = ((k / W : Nat) : Int) := rfl
  have h2 : (k : Int) % (W : Int) = ((k % W : Nat) : Int) := rfl
  have h3 := Nat.div_le_self k W
  have h4 := Nat.mod_le k W
  rw [h1, h2]
  generalize k / W = a at h3 ⊢
  generalize k % W = b at h4 ⊢
  exact ⟨IntWalk.i64_in _ (by omega), IntWalk.i64_in _ (by omega)⟩
set_option maxRecDepth 100000 in
set_option maxHeartbeats 1600000 in
theorem seCell_any (F : Nat → ByteArray) (n k : Nat) (lo hi : Nat) (v : Value) (w : World) (hv : Sl w lo hi 1 v n (sC F)) (hhi : hi ≤ w.heap.size) (hg : flB F n = true) (hk : k ≤ 1000) :
    Calls Tryd.prog 79 #[v, .int .i64 k] w fun e w' => e = .returned (.agg #[.int .i64 ((k : Int) / ((F 0).size : Int)), .int .i64 ((k : Int) % ((F 0).size : Int))]) ∧ Below w.heap.size w w' := by
  obtain ⟨A, cap, rfl, hcap, hA⟩ := hv.open_
  obtain ⟨g1, g2, g3, g4, _, _⟩ := flB_facts hg
  obtain ⟨blk, off, rfl, h1, h2, h3⟩ := hA (by omega)
  have c0 : w.cell? ⟨blk, off, none⟩ = some (.string (F 0)) := by simpa [sC] using h3 0 0 (by omega) (by omega)
  have l0 : blk < w.heap.size := by omega
  obtain ⟨z1, z2⟩ := div_in k (F 0).size hk
  have hW0 : ((F 0).size : Int) ≠ 0 := by omega
  have hW1 : (F 0).size ≠ 0 := by omega
  have hn0 : n ≠ 0 := by omega
  have Z3 : Hid ((k : Int).tmod ((F 0).size : Int) = (k : Int) % ((F 0).size : Int)) := Int.tmod_eq_emod_of_nonneg (by omega)
  clear hg hA hv h3
  go_enter Tryd.func79, Tryd.ntmps79
  go_wp2_with fail
  refine wp_region_mixd [(0, true), (1, true), (2, true), (3, true), (4, true), (5, true), (6, true), (7, true), (8, true), (9, true), (10, true), (11, true), (12, true), (13, false)] (fun W => W.cell? ⟨blk, off, none⟩ = some (.string (F 0))) (by kernel_rfl) (by kernel_rfl) (by kernel_rfl) (by kernel_rfl) ((World.cell?_alloc_lt _ _ _ l0).trans c0) ?_
  intro wd hwd _
  have hbd : Below w.heap.size w wd := by rw [hwd.out]; exact Below.drew ((Below.refl _ _).alloc (Nat.le_refl _) _)
  have Bd : Bx2 wd w.heap.size 0 0 := by rw [hwd.out]; exact (Bx2.new w 0 0).below (B := w.heap.size + 1) (Below.drew (Below.refl _ _)) (by omega)
  clear hwd
  refine mix_look _ _ rfl rfl (fun w' _ => BigFrame.run_move _ rfl w') ?_
  go_simp
  refine mix_look _ _ rfl rfl (fun w' _ => BigFrame.run_move _ rfl w') ?_
  go_simp
  refine mix_look _ (.pointer (some ⟨blk, off, none⟩)) rfl rfl (fun w' hw' => (by go_simp)) ?_
  go_simp
  refine mix_look _ (.string (F 0)) rfl rfl (fun w' hw' => (by go_simp)) ?_
  go_simp
  refine mix_look _ (.int .i64 (F 0).size) rfl rfl (fun w' hw' => (by go_simp)) ?_
  go_simp
  refine mix_look _ (.int .i64 ((k : Int) / ((F 0).size : Int))) rfl rfl (fun w' hw' => (by go_simp)) ?_
  go_simp
  refine mix_look _ _ rfl rfl (fun w' _ => BigFrame.run_move _ rfl w') ?_
  go_simp
  refine mix_look _ _ rfl rfl (fun w' _ => BigFrame.run_move _ rfl w') ?_
  go_simp
  refine mix_look _ (.pointer (some ⟨blk, off, none⟩)) rfl rfl (fun w' hw' => (by go_simp)) ?_
  go_simp
  refine mix_look _ (.string (F 0)) rfl rfl (fun w' hw' => (by go_simp)) ?_
  go_simp
  refine mix_look _ (.int .i64 (F 0).size) rfl rfl (fun w' hw' => (by go_simp)) ?_
  go_simp
  refine mix_look _ (.int .i64 ((k : Int) % ((F 0).size : Int))) rfl rfl (fun w' hw' => (by go_simp; exact Z3.out)) ?_
  go_simp
  refine mix_look _ (.agg #[.int .i64 ((k : Int) / ((F 0).size : Int)), .int .i64 ((k : Int) % ((F 0).size : Int))]) rfl rfl (fun w' hw' => (by go_simp)) ?_
  go_simp
  obtain ⟨w1, W1⟩ : ∃ W, W = (wd.setCell ⟨w.heap.size, 0, none⟩ (.int .i64 ((k : Int) / ((F 0).size : Int)))).setCell ⟨w.heap.size, 1, none⟩ (.int .i64 ((k : Int) % ((F 0).size : Int))) := ⟨_, rfl⟩
  have B1 : Bx2 w1 w.heap.size ((k : Int) / ((F 0).size : Int)) ((k : Int) % ((F 0).size : Int)) := by
    rw [W1]
    exact Bd.set _ _
  have hb1 : Below w.heap.size w w1 := by
    rw [W1]
    exact (hbd.setCell (Nat.le_refl _) _).setCell (Nat.le_refl _) _
  have hc1 : w1.cell? ⟨blk, off, none⟩ = some (.string (F 0)) := (hb1.cell (p := ⟨blk, off, none⟩) l0).trans c0
  have HW1 := hide W1
  clear W1
  obtain ⟨d0, d1, df, dl⟩ := Bd
  refine mix_store _ w1 rfl rfl (by rw [HW1.out]; go_simp) hc1 ?_
  clear d0 d1 df dl
  obtain ⟨q0, q1, qf, ql⟩ := B1
  go_simp
  refine wpMix_nil ?_
  go_wp2_with fail
  exact bodyPost_ret (v := .agg #[.int .i64 ((k : Int) / ((F 0).size : Int)), .int .i64 ((k : Int) % ((F 0).size : Int))]) (by simp [results, Tryd.results79, go_sem, *]) rfl ⟨rfl, hb1⟩
set_option maxRecDepth 100000 in
set_option maxHeartbeats 3200000 in
theorem FarthestCell_spec (F : Nat → ByteArray) (n : Nat) (r c : Int) (lo hi : Nat) (v : Value) (w : World) (hv : Sl w lo hi 1 v n (sC F)) (hhi : hi ≤ w.heap.size) (hf : ffits F n) :
    Calls Tryd.prog 34 #[v, .agg #[.int .i64 r, .int .i64 c]] w (FaRes F n r c w) := by
  obtain ⟨A, capF, rfl, hcap, hA⟩ := hv.open_
  clear hA
  go_enter Tryd.func34, Tryd.ntmps34
  go_wp2_with fail
  refine (seAsked_any F n r c lo hi _ _ (hv.below (B := w.heap.size) (by repeat (first | (with_reducible exact Below.refl _ _) | (with_reducible refine below_ov ?_ ?_) | (with_reducible refine Below.setCell ?_ ?_ _) | (with_reducible refine Below.alloc ?_ ?_ _) | (with_reducible refine Below.drew ?_) | (with_reducible refine below_drewN ?_ _) | (refine Below.trans ?_ (Below.mono ‹Below _ _ _› (by first | omega | (simp; done) | (simp; omega)))) | exact Below.refl _ _ | omega | (focus (simp; done)) | (focus (simp; omega)))) hhi) (by simp; omega) hf).mono ?_
  rintro e w1 ⟨rfl, hb1⟩
  have hz1 := hb1.size
  simp at hz1
  have hb01 : Below w.heap.size w w1 := (by repeat (first | (with_reducible exact Below.refl _ _) | (with_reducible refine below_ov ?_ ?_) | (with_reducible refine Below.setCell ?_ ?_ _) | (with_reducible refine Below.alloc ?_ ?_ _) | (with_reducible refine Below.drew ?_) | (with_reducible refine below_drewN ?_ _) | (refine Below.trans ?_ (Below.mono ‹Below _ _ _› (by first | omega | (simp; done) | (simp; omega)))) | exact Below.refl _ _ | omega | (focus (simp; done)) | (focus (simp; omega))))
  have B1 : Bx2 w1 w.heap.size r c := ((Bx2.new w r c).below ((Below.refl _ _).alloc (Nat.le_refl _) _) (by simp)).below hb1 (by simp; omega)
  have R1 : Bx2 w1 (w.heap.size + 1) 0 0 := by
    have h := Bx2.new (w.alloc (.cells #[.int .i64 r, .int .i64 c] 38)) 0 0
    simp only [World.size_alloc] at h
    exact h.below hb1 (by simp)
  cases e1 : sfOk F n r c with
  | false =>
    have HX := hide e1
    obtain ⟨r0, r1, rf, rl⟩ := R1
    clear B1
    go_wp2_with fail
    refine bodyPost_ret (v := .tuple #[.agg #[.int .i64 0, .int .i64 0], .int .i64 0, .bool false]) (by simp [results, Tryd.results34, go_sem, *]) rfl (fa_nil HX.out ?_)
    exact (hb01.setCell (by simp) _).setCell (by simp) _
  | true =>
    have HS := hide e1
    have HGO : Hid (flB F n = true ∧ opB F n r c = true) := by
      show _ ∧ _
      simpa only [sfOk, Bool.and_eq_true] using e1
    clear e1
    have har := fl_area HGO.out.1
    have hbd : ∀ i, -1 ≤ stF F n (r, c) i ∧ stF F n (r, c) i ≤ 1000 := fun i => by
      have := stF_bd (F := F) (n := n) (a := (r, c)) HGO.out.2 i
      omega
    have HBD := hide hbd
    clear hbd
    have HR1 := hide R1
    obtain ⟨p0, p1, pf, pl⟩ := B1
    clear R1
    go_wp2_with fail
    refine (seSteps_any F n r c lo hi _ _ (hv.below (B := w.heap.size) hb01 hhi) (by omega) HGO.out.1 HGO.out.2).mono ?_
    rintro e w3 ⟨g, co, rfl, ho, hg1, hg2, hb3⟩
    have hz3 := hb3.size
    have hb03 : Below w.heap.size w w3 := hb01.trans (hb3.mono (by omega))
    have HR3 := hide (HR1.out.below hb3 HR1.out.lt)
    have HO := hide ho
    clear ho p0 p1 pf pl
    have hN : n * (F 0).size ≤ 144 := har.2
    obtain ⟨N, HN⟩ : ∃ N, N = n * (F 0).size := ⟨_, rfl⟩
    rw [← HN] at HO hN
    rw [← HN]
    have HNN := hide HN
    clear HN har
    have d9 : decide ((N : Int) < 0) = false := decide_eq_false (by omega)
    go_wp2_with fail
    go_loopg [7, 8, 20] (N + 1) (fun gn bv mv kv wr => ∃ k : Nat, k ≤ N ∧ N - k < gn ∧ bv = .int .i64 ((mxF (stF F n (r, c)) k).2 : Nat) ∧ mv = .int .i64 (mxF (stF F n (r, c)) k).1 ∧ kv = .int .i64 k ∧ Below w3.heap.size w3 wr)
    case atStart => exact ⟨0, by omega, by omega, rfl, rfl, rfl, Below.refl _ _⟩
    case round =>
      obtain ⟨k, hk, hgk, rfl, rfl, rfl, hb⟩ := hrel
      have hzr := hb.size
      by_cases hkn : k < N
      · obtain ⟨-, k1, kc⟩ := (HO.out.below hb (by omega)).cell (by omega) (o := k) (by omega)
        have k0 := kc hkn
        clear kc
        by_cases hlt : (mxF (stF F n (r, c)) k).1 < stF F n (r, c) k
        · have HM : Hid (mxF (stF F n (r, c)) (k + 1) = (stF F n (r, c) k, k)) := if_pos hlt
          have d1 : decide (stF F n (r, c) k > (mxF (stF F n (r, c)) k).1) = true := decide_eq_true hlt
          go_wp2_with fail
          go_roundg (N - k)
          case measure => omega
          case rel => exact ⟨k + 1, by omega, by omega, by rw [HM.out], by rw [HM.out], by go_num, hb⟩
        · have HM : Hid (mxF (stF F n (r, c)) (k + 1) = mxF (stF F n (r, c)) k) := if_neg hlt
          have d1 : decide (stF F n (r, c) k > (mxF (stF F n (r, c)) k).1) = false := decide_eq_false hlt
          go_wp2_with fail
          go_roundg (N - k)
          case measure => omega
          case rel => exact ⟨k + 1, by omega, by omega, by rw [HM.out], by rw [HM.out], by go_num, hb⟩
      · obtain rfl : k = N := by omega
        have hmx := mxF_bd HBD.out (by omega) k
        obtain ⟨K, HK⟩ : ∃ K, K = (mxF (stF F n (r, c)) k).2 := ⟨_, rfl⟩
        obtain ⟨M, HM⟩ : ∃ M, M = (mxF (stF F n (r, c)) k).1 := ⟨_, rfl⟩
        have HFA : Hid (faK F n r c = (M, K)) := by show _ = _; rw [faK, ← HNN.out, HK, HM]
        rw [← HK, ← HM] at hmx
        rw [← HK, ← HM]
        clear HK HM
        go_wp2_with fail
        refine (seCell_any F n K lo hi _ _ (hv.below (B := w.heap.size) (hb03.trans (hb.mono (by omega))) hhi) (by omega) HGO.out.1 (by omega)).mono ?_
        rintro e w4 ⟨rfl, hb4⟩
        have hz4 := hb4.size
        have hb34 : Below w3.heap.size w3 w4 := hb.trans (hb4.mono (by omega))
        have hb04 : Below w.heap.size w w4 := hb03.trans (hb34.mono (by omega))
        obtain ⟨r0, r1, rf, rl⟩ := HR3.out.below hb34 HR3.out.lt
        go_wp2_with fail
        refine bodyPost_ret (v := .tuple #[.agg #[.int .i64 ((K : Int) / ((F 0).size : Int)), .int .i64 ((K : Int) % ((F 0).size : Int))], .int .i64 M, .bool true]) (by simp [results, Tryd.results34, go_sem, *]) rfl (fa_at HS.out HFA.out ?_)
        exact (hb04.setCell (by simp) _).setCell (by simp) _
theorem Max_row (o : Nat → Int) (N g co : Nat) (hN : 0 < N) (hN2 : N ≤ 1000) (hb : ∀ i, -1 ≤ o i) (w : World) (hc : ∀ j, j < N → w.cell? ⟨g, j, none⟩ = some (.int .i64 (o j))) :
    Calls Tryd.prog 77 #[.slice (some ⟨g, 0, none⟩) N co] w fun e w' => e = .returned (.int .i64 (mxF o N).1) ∧ w' = w := by
  have h := Any.slices_Max_int YtpckhpkbdanjoaaDoor.laysMax g 0 N co (mxL o N) w hN (by rw [mxL_len]; omega) (by omega) (fun j hj => by
    rw [mxL_len] at hj
    rw [mxL_get o hj, Nat.zero_add]
    exact hc j hj)
  change Calls Tryd.prog 77 _ _ (fun e w' => _) at h
  rw [(mxF_all hb hN).2.1] at h
  exact h
theorem Index_row (o : Nat → Int) (N g co : Nat) (hN : 0 < N) (hN2 : N ≤ 1000) (hb : ∀ i, -1 ≤ o i) (w : World) (hc : ∀ j, j < N → w.cell? ⟨g, j, none⟩ = some (.int .i64 (o j))) :
    Calls Tryd.prog 78 #[.slice (some ⟨g, 0, none⟩) N co, .int .i64 (mxF o N).1] w fun e w' => e = .returned (.int .i64 ((mxF o N).2 : Nat)) ∧ w' = w := by
  have h := Any.slices_Index_int YtpckhpkbdanjoaaDoor.laysIndex g 0 N co (mxL o N) (mxF o N).1 w (by rw [mxL_len]; omega) (by omega) (fun j hj => by
    rw [mxL_len] at hj
    rw [mxL_get o hj, Nat.zero_add]
    exact hc j hj)
  change Calls Tryd.prog 78 _ _ (fun e w' => _) at h
  rw [(mxF_all hb hN).2.2] at h
  exact h
set_option maxRecDepth 100000 in
set_option maxHeartbeats 3200000 in
theorem FarthestCell_impl (F : Nat → ByteArray) (n : Nat) (r c : Int) (lo hi : Nat) (v : Value) (w : World) (hv : Sl w lo hi 1 v n (sC F)) (hhi : hi ≤ w.heap.size) (hf : ffits F n) :
    Calls Tryd.prog 33 #[v, .agg #[.int .i64 r, .int .i64 c]] w (FaRes F n r c w) := by
  obtain ⟨A, capF, rfl, hcap, hA⟩ := hv.open_
  go_enter Tryd.func33, Tryd.ntmps33
  go_wp2_with fail
  refine (isFloor_any F n lo hi _ _ (hv.below (B := w.heap.size) (by repeat (first | (with_reducible exact Below.refl _ _) | (with_reducible refine below_ov ?_ ?_) | (with_reducible refine Below.setCell ?_ ?_ _) | (with_reducible refine Below.alloc ?_ ?_ _) | (with_reducible refine Below.drew ?_) | (with_reducible refine below_drewN ?_ _) | (refine Below.trans ?_ (Below.mono ‹Below _ _ _› (by first | omega | (simp; done) | (simp; omega)))) | exact Below.refl _ _ | omega | (focus (simp; done)) | (focus (simp; omega)))) hhi) (by simp; omega) hf).mono ?_
  rintro e w0 ⟨rfl, hb0⟩
  have hz0 := hb0.size
  simp at hz0
  have hb00 : Below w.heap.size w w0 := (by repeat (first | (with_reducible exact Below.refl _ _) | (with_reducible refine below_ov ?_ ?_) | (with_reducible refine Below.setCell ?_ ?_ _) | (with_reducible refine Below.alloc ?_ ?_ _) | (with_reducible refine Below.drew ?_) | (with_reducible refine below_drewN ?_ _) | (refine Below.trans ?_ (Below.mono ‹Below _ _ _› (by first | omega | (simp; done) | (simp; omega)))) | exact Below.refl _ _ | omega | (focus (simp; done)) | (focus (simp; omega))))
  have B0 : Bx2 w0 w.heap.size r c := ((Bx2.new w r c).below ((Below.refl _ _).alloc (Nat.le_refl _) _) (by simp)).below hb0 (by simp; omega)
  have R0 : Bx2 w0 (w.heap.size + 1) 0 0 := by
    have h := Bx2.new (w.alloc (.cells #[.int .i64 r, .int .i64 c] 38)) 0 0
    simp only [World.size_alloc] at h
    exact h.below hb0 (by simp)
  cases e0 : flB F n with
  | false =>
    have HX : Hid (sfOk F n r c = false) := by show _ = _; rw [sfOk, e0]; rfl
    obtain ⟨r0, r1, rf, rl⟩ := R0
    clear B0
    go_wp2_with fail
    refine bodyPost_ret (v := .tuple #[.agg #[.int .i64 0, .int .i64 0], .int .i64 0, .bool false]) (by simp [results, Tryd.results33, go_sem, *]) rfl (fa_nil HX.out ?_)
    exact (hb00.setCell (by simp) _).setCell (by simp) _
  | true =>
  have HG := hide e0
  have HB0 := hide B0
  have HR0 := hide R0
  obtain ⟨p0, p1, pf, pl⟩ := B0
  clear e0 R0
  go_wp2_with fail
  refine (isOpen_any F n r c lo hi _ _ (hv.below (B := w.heap.size) hb00 hhi) (by omega) HG.out).mono ?_
  rintro e w1 ⟨rfl, hb1⟩
  have hz1 := hb1.size
  have hb01 : Below w.heap.size w w1 := hb00.trans (hb1.mono (by omega))
  have B1 := HB0.out.below hb1 pl
  have R1 := HR0.out.below hb1 HR0.out.lt
  clear p0 p1 pf pl
  cases e1 : opB F n r c with
  | false =>
    have HX : Hid (sfOk F n r c = false) := by show _ = _; rw [sfOk, e1]; simp
    obtain ⟨r0, r1, rf, rl⟩ := R1
    clear B1
    go_wp2_with fail
    refine bodyPost_ret (v := .tuple #[.agg #[.int .i64 0, .int .i64 0], .int .i64 0, .bool false]) (by simp [results, Tryd.results33, go_sem, *]) rfl (fa_nil HX.out ?_)
    exact (hb01.setCell (by simp) _).setCell (by simp) _
  | true =>
    have HS : Hid (sfOk F n r c = true) := by show _ = _; rw [sfOk, HG.out, e1]; rfl
    have HO1 := hide e1
    have HBD : Hid (∀ i, -1 ≤ stF F n (r, c) i ∧ stF F n (r, c) i ≤ 1000) := fun i => by
      have := stF_bd (F := F) (n := n) (a := (r, c)) HO1.out i
      have := fl_area HG.out
      omega
    clear e1
    have har := fl_area HG.out
    obtain ⟨g1, g2, g3, g4, _, _⟩ := flB_facts HG.out
    obtain ⟨blk, off, rfl, h1, h2, h3⟩ := hA (by omega)
    have c0 : w.cell? ⟨blk, off, none⟩ = some (.string (F 0)) := by simpa [sC] using h3 0 0 (by omega) (by omega)
    have l0 : blk < w.heap.size := by omega
    have c1 : w1.cell? ⟨blk, off, none⟩ = some (.string (F 0)) := (hb01.cell (p := ⟨blk, off, none⟩) l0).trans c0
    have hn0 : n ≠ 0 := by omega
    have hW0 : ((F 0).size : Int) ≠ 0 := by omega
    have HB1 := hide B1
    have HR1 := hide R1
    have HC1 := hide c1
    have hl1 : blk < w1.heap.size := by omega
    clear hA h3 c0 B1 R1 c1
    go_wp2_with fail
    refine wp_region_mixd [(0, true), (1, true), (3, true), (4, true), (5, true), (6, true), (2, false), (7, true), (8, true)] (fun W => Below w1.heap.size w1 W) (by kernel_rfl) (by kernel_rfl) (by kernel_rfl) (by kernel_rfl) (Below.drew (Below.refl _ _)) ?_
    intro wd hwd hbd
    have hzd := hbd.size
    have HCC : Hid (∀ W, Below w1.heap.size w1 W → (W.cell? ⟨w.heap.size, 0, none⟩ = some (.int .i64 r) ∧ W.cell? ⟨w.heap.size, 1, none⟩ = some (.int .i64 c)) ∧ W.cell? ⟨blk, off, none⟩ = some (.string (F 0))) := fun W hW =>
      ⟨⟨(HB1.out.below hW HB1.out.lt).c0, (HB1.out.below hW HB1.out.lt).c1⟩, (hW.cell (p := ⟨blk, off, none⟩) hl1).trans HC1.out⟩
    refine mix_look _ _ rfl rfl (fun w' _ => BigFrame.run_move _ rfl w') ?_
    go_simp
    refine mix_look _ (.agg #[.int .i64 r, .int .i64 c]) rfl rfl (fun w' hw' => (by obtain ⟨⟨a0, a1⟩, a2⟩ := HCC.out w' hw'; go_simp)) ?_
    go_simp
    refine mix_look _ _ rfl rfl (fun w' _ => BigFrame.run_move _ rfl w') ?_
    go_simp
    refine mix_look _ (.pointer (some ⟨blk, off, none⟩)) rfl rfl (fun w' hw' => (by go_simp)) ?_
    go_simp
    refine mix_look _ (.string (F 0)) rfl rfl (fun w' hw' => (by obtain ⟨⟨a0, a1⟩, a2⟩ := HCC.out w' hw'; go_simp)) ?_
    go_simp
    refine mix_look _ (.int .i64 (F 0).size) rfl rfl (fun w' hw' => (by go_simp)) ?_
    go_simp
    refine mix_call _ 72 #[.slice (some ⟨blk, off, none⟩) n capF, .agg #[.int .i64 r, .int .i64 c]] rfl rfl (by go_simp) ?_
    refine (stepsFrom_any F n r c lo hi _ _ (hv.below (B := w.heap.size) (hb01.trans (hbd.mono (by omega))) hhi) (by omega) HG.out HO1.out).mono ?_
    rintro e w3 ⟨g, rfl, ho, hg1, hg2, hb3⟩
    have hz3 := hb3.size
    have hb13 : Below w1.heap.size w1 w3 := hbd.trans (hb3.mono (by omega))
    refine ⟨_, rfl, hb13, ?_⟩
    go_simp
    refine mix_look _ _ rfl rfl (fun w' _ => BigFrame.run_assign _ rfl w') ?_
    go_simp
    refine mix_look _ _ rfl rfl (fun w' _ => BigFrame.run_assign _ rfl w') ?_
    go_simp
    refine wpMix_nil ?_
    have HR3 := hide (HR1.out.below hb13 HR1.out.lt)
    have HOC : Hid (∀ j, j < n * (F 0).size → w3.cell? ⟨g, j, none⟩ = some (.int .i64 (stF F n (r, c) j))) := fun j hj => (ho.cell (by omega) (o := j) (by omega)).2.2 hj
    have hb03 : Below w.heap.size w w3 := hb01.trans (hb13.mono (by omega))
    clear ho HCC hwd
    have hN : n * (F 0).size ≤ 144 := har.2
    have hN1 : 1 ≤ n * (F 0).size := har.1
    clear har
    obtain ⟨N, HN⟩ : ∃ N, N = n * (F 0).size := ⟨_, rfl⟩
    rw [← HN] at HOC hN hN1
    (try rw [← HN])
    have HNN := hide HN
    clear HN
    go_wp2_with fail
    refine (Max_row (stF F n (r, c)) N g _ hN1 (by omega) (fun i => (HBD.out i).1) _ HOC.out).mono ?_
    rintro e w4 ⟨rfl, hw4⟩
    obtain rfl := hw4
    go_wp2_with fail
    refine (Index_row (stF F n (r, c)) N g _ hN1 (by omega) (fun i => (HBD.out i).1) _ HOC.out).mono ?_
    rintro e w5 ⟨rfl, hw5⟩
    obtain rfl := hw5
    have hmx := mxF_bd HBD.out (by omega) N
    obtain ⟨K, HK⟩ : ∃ K, K = (mxF (stF F n (r, c)) N).2 := ⟨_, rfl⟩
    obtain ⟨M, HM⟩ : ∃ M, M = (mxF (stF F n (r, c)) N).1 := ⟨_, rfl⟩
    have HFA : Hid (faK F n r c = (M, K)) := by show _ = _; rw [faK, ← HNN.out, HK, HM]
    rw [← HK, ← HM] at hmx
    rw [← HK, ← HM]
    clear HK HM HOC
    obtain ⟨z1, z2⟩ := div_in K (F 0).size (by omega)
    have Z3 : Hid ((K : Int).tmod ((F 0).size : Int) = (K : Int) % ((F 0).size : Int)) := Int.tmod_eq_emod_of_nonneg (by omega)
    have hW1 : (F 0).size ≠ 0 := by omega
    go_wp2_with fail
    refine wp_region_mixd [(0, true), (1, true), (2, true), (3, true), (4, true), (5, true), (6, true), (7, true), (8, false), (9, true), (10, true)] (fun W => Below w.heap.size w W) (by kernel_rfl) (by kernel_rfl) (by kernel_rfl) (by kernel_rfl) (Below.drew hb03) ?_
    intro we hwe hbe
    have R5 : Bx2 we (w.heap.size + 1) 0 0 := by
      rw [hwe.out]
      exact HR3.out.below (Below.drew (Below.refl _ _)) HR3.out.lt
    refine mix_look _ _ rfl rfl (fun w' _ => BigFrame.run_move _ rfl w') ?_
    go_simp
    refine mix_look _ _ rfl rfl (fun w' _ => BigFrame.run_move _ rfl w') ?_
    go_simp
    refine mix_look _ (.int .i64 ((K : Int) / ((F 0).size : Int))) rfl rfl (fun w' hw' => (by go_simp)) ?_
    go_simp
    refine mix_look _ _ rfl rfl (fun w' _ => BigFrame.run_move _ rfl w') ?_
    go_simp
    refine mix_look _ _ rfl rfl (fun w' _ => BigFrame.run_move _ rfl w') ?_
    go_simp
    refine mix_look _ (.int .i64 ((K : Int) % ((F 0).size : Int))) rfl rfl (fun w' hw' => (by go_simp; exact Z3.out)) ?_
    go_simp
    refine mix_look _ (.agg #[.int .i64 ((K : Int) / ((F 0).size : Int)), .int .i64 ((K : Int) % ((F 0).size : Int))]) rfl rfl (fun w' hw' => (by go_simp)) ?_
    go_simp
    refine mix_look _ _ rfl rfl (fun w' _ => BigFrame.run_move _ rfl w') ?_
    go_simp
    obtain ⟨w6, W6⟩ : ∃ W, W = (we.setCell ⟨w.heap.size + 1, 0, none⟩ (.int .i64 ((K : Int) / ((F 0).size : Int)))).setCell ⟨w.heap.size + 1, 1, none⟩ (.int .i64 ((K : Int) % ((F 0).size : Int))) := ⟨_, rfl⟩
    have B6 : Bx2 w6 (w.heap.size + 1) ((K : Int) / ((F 0).size : Int)) ((K : Int) % ((F 0).size : Int)) := by rw [W6]; exact R5.set _ _
    have hb6 : Below w.heap.size w w6 := by rw [W6]; exact (hbe.setCell (by simp) _).setCell (by simp) _
    have HW6 := hide W6
    clear W6
    obtain ⟨r0, r1, rf, rl⟩ := R5
    refine mix_store _ w6 rfl rfl (by rw [HW6.out]; go_simp) hb6 ?_
    clear r0 r1 rf rl
    go_simp
    refine mix_look _ _ rfl rfl (fun w' _ => BigFrame.run_assign _ rfl w') ?_
    go_simp
    refine mix_look _ _ rfl rfl (fun w' _ => BigFrame.run_assign _ rfl w') ?_
    go_simp
    refine wpMix_nil ?_
    obtain ⟨r0, r1, rf, rl⟩ := B6
    go_wp2_with fail
    refine bodyPost_ret (v := .tuple #[.agg #[.int .i64 ((K : Int) / ((F 0).size : Int)), .int .i64 ((K : Int) % ((F 0).size : Int))], .int .i64 M, .bool true]) (by simp [results, Tryd.results33, go_sem, *]) rfl (fa_at HS.out HFA.out hb6)

end Go.Proofs.YtpckhpkbdanjoaaDoor
