/-
  Texts of this proof, one behind the other (part 9).
-/
import Derived.Test.YtpckhpkbdanjoaaDoorQ8
import Derived.Shelf.Slices.Turned
/-
  Walks: the reference's list of the open cells on a way or next to it.-/
namespace Go.Proofs.YtpckhpkbdanjoaaDoor
set_option linter.unusedVariables false
set_option linter.unusedSimpArgs false
open Go.RowKit

theorem nflt : ∀ n, flt (fun _ => false) n = []
  | 0 => rfl
  | n + 1 => by rw [flt, nflt n]; rfl
set_option maxRecDepth 100000 in
set_option maxHeartbeats 3200000 in
theorem seNear_any (F : Nat → ByteArray) (n : Nat) (p q : Nat → Int) (m lo hi lo2 hi2 : Nat) (v u : Value) (w : World) (hv : Sl w lo hi 1 v n (sC F)) (hhi : hi ≤ w.heap.size) (hu : Sl w lo2 hi2 2 u m (iiC p q)) (hhi2 : hi2 ≤ w.heap.size) (hg : flB F n = true) (hm : m ≤ 1000) (hop : ∀ t, t < m → opB F n (p t) (q t) = true) :
    Calls Tryd.prog 55 #[v, u] w fun e w' => ∃ v', e = .returned v' ∧ PRowI w' w.heap.size v' (nrF F n p q m) (n * (F 0).size) ∧ Below w.heap.size w w' := by
  obtain ⟨A, cap, rfl, hcap, hA⟩ := hu.open_
  have HG := hide hg
  have HV := hide hv
  have HOP : Hid (∀ t, t < m → opB F n (p t) (q t) = true) := hop
  clear hg hop hv
  go_enter Tryd.func55, Tryd.ntmps55
  go_wp2_with fail
  have hwW : n * (F 0).size ≤ 1000 := by
    have h := HG.out
    obtain ⟨g1, g2, g3, g4, g5, _⟩ := flB_facts h
    have := Nat.mul_le_mul g2 g4
    omega
  go_loopg [5, 13] (m + 1) (fun gn a b wr => ∃ t : Nat, t ≤ m ∧ m - t < gn ∧ b = .int .i64 t ∧ Hid (PRowI wr w.heap.size a (nrF F n p q t) (n * (F 0).size)) ∧ Hid (Below w.heap.size w wr))
  case atStart => exact ⟨0, by omega, by omega, rfl, (by show PRowI _ _ _ _ _; rw [PRowI, fltV, nrF, nflt]; exact World.ownsRow_nil _ _ _ _), Below.refl _ _⟩
  case round =>
    obtain ⟨t, ht, hgt, rfl, HR, HB⟩ := hrel
    have hz := HB.out.size
    by_cases htm : t < m
    · have d1 : decide ((t : Int) < (m : Int)) = true := decide_eq_true (by omega)
      have d1' : decide (t < m) = true := decide_eq_true htm
      obtain ⟨blk, off, rfl, h1, h2, h3⟩ := hA (by omega)
      have l0 : blk < w.heap.size := by omega
      have c0 : wr.cell? ⟨blk, off + t * 2, none⟩ = some (.int .i64 (p t)) := (HB.out.cell (p := ⟨blk, off + t * 2, none⟩) l0).trans (by simpa [iiC] using h3 t 0 htm (by omega))
      have c1 : wr.cell? ⟨blk, off + t * 2 + 1, none⟩ = some (.int .i64 (q t)) := (HB.out.cell (p := ⟨blk, off + t * 2 + 1, none⟩) l0).trans (by simpa [iiC] using h3 t 1 htm (by omega))
      clear hA h3 hu
      go_wp2_with fail
      obtain ⟨bb, hbb⟩ : ∃ bb, bb = wr.heap.size := ⟨_, rfl⟩
      rw [← hbb]
      have HBB := hide hbb
      clear hbb
      go_loopg [5, 8] 4 (fun gn a b wr' => ∃ j : Nat, j ≤ 3 ∧ 3 - j < gn ∧ b = .int .i64 ((j : Int) - 1) ∧ Hid (PRowI wr' w.heap.size a (nrR F n (nrF F n p q t) (p t) (q t) j) (n * (F 0).size)) ∧ Hid (Below w.heap.size w wr') ∧ Hid (Bx2 wr' bb (p t) (q t)))
      case atStart => exact ⟨0, by omega, by omega, rfl, row_below HR.out ((Below.refl _ _).alloc (Nat.le_refl _) _) (Nat.le_refl _), HB.out.alloc (by omega) _, (by rw [HBB.out]; exact Bx2.new _ _ _)⟩
      case round =>
        obtain ⟨j, hj, hgj, rfl, HR2, HB2, HX2⟩ := hrel
        by_cases hj3 : j < 3
        · have d2 : decide (((j : Int) - 1) ≤ 1) = true := decide_eq_true (by omega)
          have hz2 := HB2.out.size
          obtain ⟨x0, x1, xf, xl⟩ := HX2.out
          go_wp2_with fail
          go_loopg [5, 9] 4 (fun gn a b wr3 => ∃ k : Nat, k ≤ 3 ∧ 3 - k < gn ∧ b = .int .i64 ((k : Int) - 1) ∧ Hid (PRowI wr3 w.heap.size a (nrK F n (nrR F n (nrF F n p q t) (p t) (q t) j) (p t + ((j : Int) - 1)) (q t) k) (n * (F 0).size)) ∧ Hid (Below w.heap.size w wr3) ∧ Hid (Bx2 wr3 bb (p t) (q t)))
          case atStart => exact ⟨0, by omega, by omega, rfl, HR2.out, HB2.out, HX2.out⟩
          case round =>
            obtain ⟨k, hk, hgk, rfl, HR3, HB3, HX3⟩ := hrel
            have hz3 := HB3.out.size
            clear x0 x1 xf xl
            by_cases hk3 : k < 3
            · have d3 : decide (((k : Int) - 1) ≤ 1) = true := decide_eq_true (by omega)
              obtain ⟨x0, x1, xf, xl⟩ := HX3.out
              obtain ⟨b1, b2, _⟩ := opB_iff.1 (HOP.out t htm)
              obtain ⟨g1, g2, g3, g4, g5, _⟩ := flB_facts HG.out
              have z1 : IntKind.i64.wrap (p t + ((j : Int) - 1)) = p t + ((j : Int) - 1) := IntWalk.i64_in _ (by omega)
              have z2 : IntKind.i64.wrap (q t + ((k : Int) - 1)) = q t + ((k : Int) - 1) := IntWalk.i64_in _ (by omega)
              clear b1 b2 g1 g2 g3 g4 g5
              go_wp2_with fail
              refine (seOpen_any F n (p t + ((j : Int) - 1)) (q t + ((k : Int) - 1)) lo hi _ _ (HV.out.below (B := w.heap.size) ?_ hhi) ?_ HG.out).mono ?_
              · exact HB3.out.alloc hz3 _
              · simp; omega
              rintro e w4 ⟨rfl, hb4⟩
              have hz4 := hb4.size
              simp at hz4
              have HX4 := hide ((Bx2.new wr (p t + ((j : Int) - 1)) (q t + ((k : Int) - 1))).below hb4 (by simp))
              have hbw : Below wr.heap.size wr w4 := ((Below.refl wr.heap.size wr).alloc (Nat.le_refl _) _).trans (hb4.mono (by simp))
              have HB4 : Hid (Below w.heap.size w w4) := HB3.out.trans (hbw.mono hz3)
              have HR4 : Hid (PRowI w4 w.heap.size u5 (nrK F n (nrR F n (nrF F n p q t) (p t) (q t) j) (p t + ((j : Int) - 1)) (q t) k) (n * (F 0).size)) := row_below HR3.out hbw (Nat.le_refl _)
              have HY4 : Hid (Bx2 w4 bb (p t) (q t)) := HX3.out.below hbw HX3.out.lt
              clear x0 x1 xf xl hbw hb4
              cases eo : opB F n (p t + ((j : Int) - 1)) (q t + ((k : Int) - 1)) with
              | false =>
                have HN : Hid (nrK F n (nrR F n (nrF F n p q t) (p t) (q t) j) (p t + ((j : Int) - 1)) (q t) (k + 1) = nrK F n (nrR F n (nrF F n p q t) (p t) (q t) j) (p t + ((j : Int) - 1)) (q t) k) := by show _ = _; rw [nrK, if_neg (by rw [eo]; simp)]
                go_wp2_with fail
                go_roundg (3 - k)
                case measure => omega
                case rel => exact ⟨k + 1, by omega, by omega, by go_num, (by show PRowI _ _ _ _ _; rw [HN.out]; exact HR4.out), HB4.out, HY4.out⟩
              | true =>
                have HEO := hide eo
                have HN : Hid (nrK F n (nrR F n (nrF F n p q t) (p t) (q t) j) (p t + ((j : Int) - 1)) (q t) (k + 1) = orP (nrK F n (nrR F n (nrF F n p q t) (p t) (q t) j) (p t + ((j : Int) - 1)) (q t) k) (ixF F (p t + ((j : Int) - 1), q t + ((k : Int) - 1)))) := by show _ = _; rw [nrK, if_pos eo]
                obtain ⟨x0, x1, xf, xl⟩ := HX4.out
                clear eo
                go_wp2_with fail
                refine (seIndex_any F n (p t + ((j : Int) - 1)) (q t + ((k : Int) - 1)) lo hi _ _ (HV.out.below (B := w.heap.size) HB4.out hhi) (by omega) HG.out HEO.out).mono ?_
                rintro e w5 ⟨rfl, hb5⟩
                have hz5 := hb5.size
                have HB5 : Hid (Below w.heap.size w w5) := HB4.out.trans (hb5.mono (by omega))
                have HY5 : Hid (Bx2 w5 bb (p t) (q t)) := HY4.out.below hb5 HY4.out.lt
                have hr5 := row_below HR4.out hb5 (Nat.le_refl _)
                clear x0 x1 xf xl
                go_wp2_with fail
                refine (l1Put_any _ _ (ixF F (p t + ((j : Int) - 1), q t + ((k : Int) - 1))) w.heap.size u5 w5 hr5 (ix_lt (p := (_, _)) HEO.out) hwW HB5.out.size).mono ?_
                rintro e w6 ⟨v6, rfl, hr6, hb6⟩
                have HR6 := hide hr6
                have HB6 : Hid (Below w.heap.size w w6) := HB5.out.trans (hb6.mono HB5.out.size)
                have HY6 : Hid (Bx2 w6 bb (p t) (q t)) := HY5.out.below hb6 HY5.out.lt
                clear hr5 hr6 hb6
                go_wp2_with fail
                go_roundg (3 - k)
                case measure => omega
                case rel => exact ⟨k + 1, by omega, by omega, by go_num, (by show PRowI _ _ _ _ _; rw [HN.out]; exact HR6.out), HB6.out, HY6.out⟩
            · have d3 : decide (((k : Int) - 1) ≤ 1) = false := decide_eq_false (by omega)
              obtain rfl : k = 3 := by omega
              go_wp2_with fail
              go_roundg (3 - j)
              case measure => omega
              case rel => exact ⟨j + 1, by omega, by omega, by go_num, HR3.out, HB3.out, HX3.out⟩
        · have d2 : decide (((j : Int) - 1) ≤ 1) = false := decide_eq_false (by omega)
          obtain rfl : j = 3 := by omega
          go_wp2_with fail
          go_roundg (m - t)
          case measure => omega
          case rel => exact ⟨t + 1, by omega, by omega, by go_num, HR2.out, HB2.out⟩
    · have d1 : decide ((t : Int) < (m : Int)) = false := decide_eq_false (by omega)
      have d1' : decide (t < m) = false := decide_eq_false htm
      obtain rfl : t = m := by omega
      go_wp2_with fail
      go_ret
      exact ⟨_, rfl, HR.out, HB.out⟩

end Go.Proofs.YtpckhpkbdanjoaaDoor

/-
  Walks: the farthest cell: the program's and the reference's.-/
namespace Go.Proofs
open Go.RowKit Go.Shelf
shelf_lay Lays.n113 Nm 113 at Tryd as YtpckhpkbdanjoaaDoor.laysMax
shelf_lay Lays.n108 Nm 108 at Tryd as YtpckhpkbdanjoaaDoor.laysIndex
end Go.Proofs
namespace Go.Proofs.YtpckhpkbdanjoaaDoor
set_option linter.unusedVariables false
set_option linter.unusedSimpArgs false
open Go.RowKit Go.Shelf

/-- The greatest of the first k numbers and its first place. -/
def mxF (o : Nat → Int) : Nat → Int × Nat
  | 0 => (-1, 0)
  | k + 1 => if (mxF o k).1 < o k then (o k, k) else mxF o k
def mxL (o : Nat → Int) (N : Nat) : List Int := (List.range N).map o
theorem mxL_len (o : Nat → Int) (N : Nat) : (mxL o N).length = N := by simp [mxL]
theorem mxL_get (o : Nat → Int) {N j : Nat} (h : j < N) : (mxL o N).getD j 0 = o j := by simp [mxL, h]
theorem mxF_spec {o : Nat → Int} {N : Nat} (hb : ∀ i, -1 ≤ o i) : ∀ k, k < N → (mxF o (k + 1)).2 < k + 1 ∧ (mxF o (k + 1)).1 = o (mxF o (k + 1)).2 ∧ (∀ j, j < (mxF o (k + 1)).2 → o j < (mxF o (k + 1)).1) ∧ (∀ j, j < k + 1 → o j ≤ (mxF o (k + 1)).1) ∧ Lib.maxOf ((mxL o N).take (k + 1)) = (mxF o (k + 1)).1
  | 0, hN => by
    have h0 := hb 0
    have e : mxF o 1 = if (-1 : Int) < o 0 then (o 0, 0) else (-1, 0) := rfl
    have m1 : Lib.maxOf ((mxL o N).take (0 + 1)) = o 0 := by rw [Nat.zero_add, Lib.maxOf_one, mxL_get o hN]
    rw [m1]
    show (mxF o 1).2 < _ ∧ _
    rw [e]
    by_cases h : (-1 : Int) < o 0
    · rw [if_pos h]
      refine ⟨by show 0 < 0 + 1; omega, rfl, fun j hj => absurd hj (Nat.not_lt_zero _), fun j hj => ?_, rfl⟩
      obtain rfl : j = 0 := by omega
      exact Int.le_refl _
    · rw [if_neg h]
      refine ⟨by show 0 < 0 + 1; omega, by show (-1 : Int) = o 0; omega, fun j hj => absurd hj (Nat.not_lt_zero _), fun j hj => ?_, by show o 0 = -1; omega⟩
      obtain rfl : j = 0 := by omega
      show o 0 ≤ -1
      omega
  | k + 1, hN => by
    obtain ⟨h1, h2, h3, h4, h5⟩ := mxF_spec (N := N) hb k (by omega)
    have e : mxF o (k + 1 + 1) = if (mxF o (k + 1)).1 < o (k + 1) then (o (k + 1), k + 1) else mxF o (k + 1) := rfl
    have m := Lib.maxOf_step (mxL o N) (k + 1) (by omega) (by rw [mxL_len]; omega)
    rw [h5, mxL_get o hN] at m
    rw [m, e]
    by_cases h : (mxF o (k + 1)).1 < o (k + 1)
    · rw [if_pos h]
      refine ⟨by show k + 1 < _; omega, rfl, fun j hj => ?_, fun j hj => ?_, by show max _ _ = o (k + 1); omega⟩
      · exact Int.lt_of_le_of_lt (h4 j hj) h
      · rcases Nat.lt_succ_iff_lt_or_eq.1 hj with hj | rfl
        · exact Int.le_trans (h4 j hj) (Int.le_of_lt h)
        · exact Int.le_refl _
    · rw [if_neg h]
      refine ⟨by omega, h2, h3, fun j hj => ?_, by omega⟩
      rcases Nat.lt_succ_iff_lt_or_eq.1 hj with hj | rfl
      · exact h4 j hj
      · omega
theorem mxF_all {o : Nat → Int} {N : Nat} (hb : ∀ i, -1 ≤ o i) (hN : 0 < N) : (mxF o N).2 < N ∧ Lib.maxOf ((mxL o N).take N) = (mxF o N).1 ∧ Lib.idxOf ((mxL o N).take N) (mxF o N).1 = (mxF o N).2 := by
  obtain ⟨k, rfl⟩ : ∃ k, N = k + 1 := ⟨N - 1, by omega⟩
  obtain ⟨h1, h2, h3, _, h5⟩ := mxF_spec (N := k + 1) hb k (by omega)
  refine ⟨h1, h5, Lib.idxOf_hit _ _ _ _ h1 (by rw [mxL_len]; omega) ?_ fun j hj => ?_⟩
  · rw [mxL_get o h1]
    exact h2.symm
  · have := h3 j hj
    rw [mxL_get o (by omega)]
    omega
theorem mxF_bd {o : Nat → Int} {B : Int} (hb : ∀ i, -1 ≤ o i ∧ o i ≤ B) (hB : -1 ≤ B) : ∀ k, -1 ≤ (mxF o k).1 ∧ (mxF o k).1 ≤ B ∧ (mxF o k).2 ≤ k
  | 0 => ⟨Int.le_refl _, hB, Nat.le_refl _⟩
  | k + 1 => by
    obtain ⟨a, b, c⟩ := mxF_bd hb hB k
    rw [mxF]
    split
    · exact ⟨(hb k).1, (hb k).2, Nat.le_succ _⟩
    · exact ⟨a, b, Nat.le_succ_of_le c⟩
def faK (F : Nat → ByteArray) (n : Nat) (r c : Int) : Int × Nat := mxF (stF F n (r, c)) (n * (F 0).size)
def faP (F : Nat → ByteArray) (n : Nat) (r c : Int) : Int × Int := if sfOk F n r c = true then (((faK F n r c).2 : Int) / ((F 0).size : Int), ((faK F n r c).2 : Int) % ((F 0).size : Int)) else (0, 0)
def faN (F : Nat → ByteArray) (n : Nat) (r c : Int) : Int := if sfOk F n r c = true then (faK F n r c).1 else 0
/-- What the call hands back. -/
def FaRes (F : Nat → ByteArray) (n : Nat) (r c : Int) (w : World) (e : Ending) (w' : World) : Prop := e = .returned (.tuple #[.agg #[.int .i64 (faP F n r c).1, .int .i64 (faP F n r c).2], .int .i64 (faN F n r c), .bool (sfOk F n r c)]) ∧ Below w.heap.size w w'
theorem fa_nil {F : Nat → ByteArray} {n : Nat} {r c : Int} {w w' : World} (h : sfOk F n r c = false) (hb : Below w.heap.size w w') : FaRes F n r c w (.returned (.tuple #[.agg #[.int .i64 0, .int .i64 0], .int .i64 0, .bool false])) w' :=
  ⟨by rw [faP, faN, h]; rfl, hb⟩
theorem fa_at {F : Nat → ByteArray} {n : Nat} {r c : Int} {w w' : World} {m : Int} {k : Nat} (h : sfOk F n r c = true) (hk : faK F n r c = (m, k)) (hb : Below w.heap.size w w') : FaRes F n r c w (.returned (.tuple #[.agg #[.int .i64 ((k : Int) / ((F 0).size : Int)), .int .i64 ((k : Int) % ((F 0).size : Int))], .int .i64 m, .bool true])) w' :=
  ⟨by rw [faP, faN, if_pos h, if_pos h, hk, h], hb⟩
theorem div_in (k W : Nat) (hk : k ≤ 1000) : IntKind.i64.wrap ((k : Int) / (W : Int)) = (k : Int) / (W : Int) ∧ IntKind.i64.wrap ((k : Int) % (W : Int)) = (k : Int) % (W : Int) := by
  have h1 : (k : Int) / (W : Int) = ((k / W : Nat) : Int) := rfl
  have h2 : (k : Int) % (W : Int) = ((k % W : Nat) : Int) := rfl
  have h3 := Nat.div_le_self k W
  have h4 := Nat.mod_le k W
  rw [h1, h2]
  generalize k / W = a at h3 ⊢
  generalize k % W = b at h4 ⊢
  exact ⟨IntWalk.i64_in _ (by omega), IntWalk.i64_in _ (by omega)⟩
set_option maxRecDepth 100000 in
set_option maxHeartbeats 1600000 in
theorem seCell_any (F : Nat → ByteArray) (n k : Nat) (lo hi : Nat) (v : Value) (w : World) (hv : Sl w lo hi 1 v n (sC F)) (hhi : hi ≤ w.heap.size) (hg : flB F n = true) (hk : k ≤ 1000) :
    Calls Tryd.prog 79 #[v, .int .i64 k] w fun e w' => e = .returned (.agg #[.int .i64 ((k : Int) / ((F 0).size : Int)), .int .i64 ((k : Int) % ((F 0).size : Int))]) ∧ Below w.heap.size w w' := by
  obtain ⟨A, cap, rfl, hcap, hA⟩ := hv.open_
  obtain ⟨g1, g2, g3, g4, _, _⟩ := flB_facts hg
  obtain ⟨blk, off, rfl, h1, h2, h3⟩ := hA (by omega)
  have c0 : w.cell? ⟨blk, off, none⟩ = some (.string (F 0)) := by simpa [sC] using h3 0 0 (by omega) (by omega)
  have l0 : blk < w.heap.size := by omega
  obtain ⟨z1, z2⟩ := div_in k (F 0).size hk
  have hW0 : ((F 0).size : Int) ≠ 0 := by omega
  have hW1 : (F 0).size ≠ 0 := by omega
  have hn0 : n ≠ 0 := by omega
  have Z3 : Hid ((k : Int).tmod ((F 0).size : Int) = (k : Int) % ((F 0).size : Int)) := Int.tmod_eq_emod_of_nonneg (by omega)
  clear hg hA hv h3
  go_enter Tryd.func79, Tryd.ntmps79
  go_wp2_with fail
  refine wp_region_mixd [(0, true), (1, true), (2, true), (3, true), (4, true), (5, true), (6, true), (7, true), (8, true), (9, true), (10, true), (11, true), (12, true), (13, false)] (fun W => W.cell? ⟨blk, off, none⟩ = some (.string (F 0))) (by kernel_rfl) (by kernel_rfl) (by kernel_rfl) (by kernel_rfl) ((World.cell?_alloc_lt _ _ _ l0).trans c0) ?_
  intro wd hwd _
  have hbd : Below w.heap.size w wd := by rw [hwd.out]; exact Below.drew ((Below.refl _ _).alloc (Nat.le_refl _) _)
  have Bd : Bx2 wd w.heap.size 0 0 := by rw [hwd.out]; exact (Bx2.new w 0 0).below (B := w.heap.size + 1) (Below.drew (Below.refl _ _)) (by omega)
  clear hwd
  refine mix_look _ _ rfl rfl (fun w' _ => BigFrame.run_move _ rfl w') ?_
  go_simp
  refine mix_look _ _ rfl rfl (fun w' _ => BigFrame.run_move _ rfl w') ?_
  go_simp
  refine mix_look _ (.pointer (some ⟨blk, off, none⟩)) rfl rfl (fun w' hw' => (by go_simp)) ?_
  go_simp
  refine mix_look _ (.string (F 0)) rfl rfl (fun w' hw' => (by go_simp)) ?_
  go_simp
  refine mix_look _ (.int .i64 (F 0).size) rfl rfl (fun w' hw' => (by go_simp)) ?_
  go_simp
  refine mix_look _ (.int .i64 ((k : Int) / ((F 0).size : Int))) rfl rfl (fun w' hw' => (by go_simp)) ?_
  go_simp
  refine mix_look _ _ rfl rfl (fun w' _ => BigFrame.run_move _ rfl w') ?_
  go_simp
  refine mix_look _ _ rfl rfl (fun w' _ => BigFrame.run_move _ rfl w') ?_
  go_simp
  refine mix_look _ (.pointer (some ⟨blk, off, none⟩)) rfl rfl (fun w' hw' => (by go_simp)) ?_
  go_simp
  refine mix_look _ (.string (F 0)) rfl rfl (fun w' hw' => (by go_simp)) ?_
  go_simp
  refine mix_look _ (.int .i64 (F 0).size) rfl rfl (fun w' hw' => (by go_simp)) ?_
  go_simp
  refine mix_look _ (.int .i64 ((k : Int) % ((F 0).size : Int))) rfl rfl (fun w' hw' => (by go_simp; exact Z3.out)) ?_
  go_simp
  refine mix_look _ (.agg #[.int .i64 ((k : Int) / ((F 0).size : Int)), .int .i64 ((k : Int) % ((F 0).size : Int))]) rfl rfl (fun w' hw' => (by go_simp)) ?_
  go_simp
  obtain ⟨w1, W1⟩ : ∃ W, W = (wd.setCell ⟨w.heap.size, 0, none⟩ (.int .i64 ((k : Int) / ((F 0).size : Int)))).setCell ⟨w.heap.size, 1, none⟩ (.int .i64 ((k : Int) % ((F 0).size : Int))) := ⟨_, rfl⟩
  have B1 : Bx2 w1 w.heap.size ((k : Int) / ((F 0).size : Int)) ((k : Int) % ((F 0).size : Int)) := by
    rw [W1]
    exact Bd.set _ _
  have hb1 : Below w.heap.size w w1 := by
    rw [W1]
    exact (hbd.setCell (Nat.le_refl _) _).setCell (Nat.le_refl _) _
  have hc1 : w1.cell? ⟨blk, off, none⟩ = some (.string (F 0)) := (hb1.cell (p := ⟨blk, off, none⟩) l0).trans c0
  have HW1 := hide W1
  clear W1
  obtain ⟨d0, d1, df, dl⟩ := Bd
  refine mix_store _ w1 rfl rfl (by rw [HW1.out]; go_simp) hc1 ?_
  clear d0 d1 df dl
  obtain ⟨q0, q1, qf, ql⟩ := B1
  go_simp
  refine wpMix_nil ?_
  go_wp2_with fail
  exact bodyPost_ret (v := .agg #[.int .i64 ((k : Int) / ((F 0).size : Int)), .int .i64 ((k : Int) % ((F 0).size : Int))]) (by simp [results, Tryd.results79, go_sem, *]) rfl ⟨rfl, hb1⟩
set_option maxRecDepth 100000 in
set_option maxHeartbeats 3200000 in
theorem FarthestCell_spec (F : Nat → ByteArray) (n : Nat) (r c : Int) (lo hi : Nat) (v : Value) (w : World) (hv : Sl w lo hi 1 v n (sC F)) (hhi : hi ≤ w.heap.size) (hf : ffits F n) :
    Calls Tryd.prog 34 #[v, .agg #[.int .i64 r, .int .i64 c]] w (FaRes F n r c w) := by
  obtain ⟨A, capF, rfl, hcap, hA⟩ := hv.open_
  clear hA
  go_enter Tryd.func34, Tryd.ntmps34
  go_wp2_with fail
  refine (seAsked_any F n r c lo hi _ _ (hv.below (B := w.heap.size) (by repeat (first | (with_reducible exact Below.refl _ _) | (with_reducible refine below_ov ?_ ?_) | (with_reducible refine Below.setCell ?_ ?_ _) | (with_reducible refine Below.alloc ?_ ?_ _) | (with_reducible refine Below.drew ?_) | (with_reducible refine below_drewN ?_ _) | (refine Below.trans ?_ (Below.mono ‹Below _ _ _› (by first | omega | (simp; done) | (simp; omega)))) | exact Below.refl _ _ | omega | (focus (simp; done)) | (focus (simp; omega)))) hhi) (by simp; omega) hf).mono ?_
  rintro e w1 ⟨rfl, hb1⟩
  have hz1 := hb1.size
  simp at hz1
  have hb01 : Below w.heap.size w w1 := (by repeat (first | (with_reducible exact Below.refl _ _) | (with_reducible refine below_ov ?_ ?_) | (with_reducible refine Below.setCell ?_ ?_ _) | (with_reducible refine Below.alloc ?_ ?_ _) | (with_reducible refine Below.drew ?_) | (with_reducible refine below_drewN ?_ _) | (refine Below.trans ?_ (Below.mono ‹Below _ _ _› (by first | omega | (simp; done) | (simp; omega)))) | exact Below.refl _ _ | omega | (focus (simp; done)) | (focus (simp; omega))))
  have B1 : Bx2 w1 w.heap.size r c := ((Bx2.new w r c).below ((Below.refl _ _).alloc (Nat.le_refl _) _) (by simp)).below hb1 (by simp; omega)
  have R1 : Bx2 w1 (w.heap.size + 1) 0 0 := by
    have h := Bx2.new (w.alloc (.cells #[.int .i64 r, .int .i64 c] 38)) 0 0
    simp only [World.size_alloc] at h
    exact h.below hb1 (by simp)
  cases e1 : sfOk F n r c with
  | false =>
    have HX := hide e1
    obtain ⟨r0, r1, rf, rl⟩ := R1
    clear B1
    go_wp2_with fail
    refine bodyPost_ret (v := .tuple #[.agg #[.int .i64 0, .int .i64 0], .int .i64 0, .bool false]) (by simp [results, Tryd.results34, go_sem, *]) rfl (fa_nil HX.out ?_)
    exact (hb01.setCell (by simp) _).setCell (by simp) _
  | true =>
    have HS := hide e1
    have HGO : Hid (flB F n = true ∧ opB F n r c = true) := by
      show _ ∧ _
      simpa only [sfOk, Bool.and_eq_true] using e1
    clear e1
    have har := fl_area HGO.out.1
    have hbd : ∀ i, -1 ≤ stF F n (r, c) i ∧ stF F n (r, c) i ≤ 1000 := fun i => by
      have := stF_bd (F := F) (n := n) (a := (r, c)) HGO.out.2 i
      omega
    have HBD := hide hbd
    clear hbd
    have HR1 := hide R1
    obtain ⟨p0, p1, pf, pl⟩ := B1
    clear R1
    go_wp2_with fail
    refine (seSteps_any F n r c lo hi _ _ (hv.below (B := w.heap.size) hb01 hhi) (by omega) HGO.out.1 HGO.out.2).mono ?_
    rintro e w3 ⟨g, co, rfl, ho, hg1, hg2, hb3⟩
    have hz3 := hb3.size
    have hb03 : Below w.heap.size w w3 := hb01.trans (hb3.mono (by omega))
    have HR3 := hide (HR1.out.below hb3 HR1.out.lt)
    have HO := hide ho
    clear ho p0 p1 pf pl
    have hN : n * (F 0).size ≤ 144 := har.2
    obtain ⟨N, HN⟩ : ∃ N, N = n * (F 0).size := ⟨_, rfl⟩
    rw [← HN] at HO hN
    rw [← HN]
    have HNN := hide HN
    clear HN har
    have d9 : decide ((N : Int) < 0) = false := decide_eq_false (by omega)
    go_wp2_with fail
    go_loopg [7, 8, 20] (N + 1) (fun gn bv mv kv wr => ∃ k : Nat, k ≤ N ∧ N - k < gn ∧ bv = .int .i64 ((mxF (stF F n (r, c)) k).2 : Nat) ∧ mv = .int .i64 (mxF (stF F n (r, c)) k).1 ∧ kv = .int .i64 k ∧ Below w3.heap.size w3 wr)
    case atStart => exact ⟨0, by omega, by omega, rfl, rfl, rfl, Below.refl _ _⟩
    case round =>
      obtain ⟨k, hk, hgk, rfl, rfl, rfl, hb⟩ := hrel
      have hzr := hb.size
      by_cases hkn : k < N
      · obtain ⟨-, k1, kc⟩ := (HO.out.below hb (by omega)).cell (by omega) (o := k) (by omega)
        have k0 := kc hkn
        clear kc
        by_cases hlt : (mxF (stF F n (r, c)) k).1 < stF F n (r, c) k
        · have HM : Hid (mxF (stF F n (r, c)) (k + 1) = (stF F n (r, c) k, k)) := if_pos hlt
          have d1 : decide (stF F n (r, c) k > (mxF (stF F n (r, c)) k).1) = true := decide_eq_true hlt
          go_wp2_with fail
          go_roundg (N - k)
          case measure => omega
          case rel => exact ⟨k + 1, by omega, by omega, by rw [HM.out], by rw [HM.out], by go_num, hb⟩
        · have HM : Hid (mxF (stF F n (r, c)) (k + 1) = mxF (stF F n (r, c)) k) := if_neg hlt
          have d1 : decide (stF F n (r, c) k > (mxF (stF F n (r, c)) k).1) = false := decide_eq_false hlt
          go_wp2_with fail
          go_roundg (N - k)
          case measure => omega
          case rel => exact ⟨k + 1, by omega, by omega, by rw [HM.out], by rw [HM.out], by go_num, hb⟩
      · obtain rfl : k = N := by omega
        have hmx := mxF_bd HBD.out (by omega) k
        obtain ⟨K, HK⟩ : ∃ K, K = (mxF (stF F n (r, c)) k).2 := ⟨_, rfl⟩
        obtain ⟨M, HM⟩ : ∃ M, M = (mxF (stF F n (r, c)) k).1 := ⟨_, rfl⟩
        have HFA : Hid (faK F n r c = (M, K)) := by show _ = _; rw [faK, ← HNN.out, HK, HM]
        rw [← HK, ← HM] at hmx
        rw [← HK, ← HM]
        clear HK HM
        go_wp2_with fail
        refine (seCell_any F n K lo hi _ _ (hv.below (B := w.heap.size) (hb03.trans (hb.mono (by omega))) hhi) (by omega) HGO.out.1 (by omega)).mono ?_
        rintro e w4 ⟨rfl, hb4⟩
        have hz4 := hb4.size
        have hb34 : Below w3.heap.size w3 w4 := hb.trans (hb4.mono (by omega))
        have hb04 : Below w.heap.size w w4 := hb03.trans (hb34.mono (by omega))
        obtain ⟨r0, r1, rf, rl⟩ := HR3.out.below hb34 HR3.out.lt
        go_wp2_with fail
        refine bodyPost_ret (v := .tuple #[.agg #[.int .i64 ((K : Int) / ((F 0).size : Int)), .int .i64 ((K : Int) % ((F 0).size : Int))], .int .i64 M, .bool true]) (by simp [results, Tryd.results34, go_sem, *]) rfl (fa_at HS.out HFA.out ?_)
        exact (hb04.setCell (by simp) _).setCell (by simp) _
theorem Max_row (o : Nat → Int) (N g co : Nat) (hN : 0 < N) (hN2 : N ≤ 1000) (hb : ∀ i, -1 ≤ o i) (w : World) (hc : ∀ j, j < N → w.cell? ⟨g, j, none⟩ = some (.int .i64 (o j))) :
    Calls Tryd.prog 77 #[.slice (some ⟨g, 0, none⟩) N co] w fun e w' => e = .returned (.int .i64 (mxF o N).1) ∧ w' = w := by
  have h := Any.slices_Max_int YtpckhpkbdanjoaaDoor.laysMax g 0 N co (mxL o N) w hN (by rw [mxL_len]; omega) (by omega) (fun j hj => by
    rw [mxL_len] at hj
    rw [mxL_get o hj, Nat.zero_add]
    exact hc j hj)
  change Calls Tryd.prog 77 _ _ (fun e w' => _) at h
  rw [(mxF_all hb hN).2.1] at h
  exact h
theorem Index_row (o : Nat → Int) (N g co : Nat) (hN : 0 < N) (hN2 : N ≤ 1000) (hb : ∀ i, -1 ≤ o i) (w : World) (hc : ∀ j, j < N → w.cell? ⟨g, j, none⟩ = some (.int .i64 (o j))) :
    Calls Tryd.prog 78 #[.slice (some ⟨g, 0, none⟩) N co, .int .i64 (mxF o N).1] w fun e w' => e = .returned (.int .i64 ((mxF o N).2 : Nat)) ∧ w' = w := by
  have h := Any.slices_Index_int YtpckhpkbdanjoaaDoor.laysIndex g 0 N co (mxL o N) (mxF o N).1 w (by rw [mxL_len]; omega) (by omega) (fun j hj => by
    rw [mxL_len] at hj
    rw [mxL_get o hj, Nat.zero_add]
    exact hc j hj)
  change Calls Tryd.prog 78 _ _ (fun e w' => _) at h
  rw [(mxF_all hb hN).2.2] at h
  exact h
set_option maxRecDepth 100000 in
set_option maxHeartbeats 3200000 in
theorem FarthestCell_impl (F : Nat → ByteArray) (n : Nat) (r c : Int) (lo hi : Nat) (v : Value) (w : World) (hv : Sl w lo hi 1 v n (sC F)) (hhi : hi ≤ w.heap.size) (hf : ffits F n) :
    Calls Tryd.prog 33 #[v, .agg #[.int .i64 r, .int .i64 c]] w (FaRes F n r c w) := by
  obtain ⟨A, capF, rfl, hcap, hA⟩ := hv.open_
  go_enter Tryd.func33, Tryd.ntmps33
  go_wp2_with fail
  refine (isFloor_any F n lo hi _ _ (hv.below (B := w.heap.size) (by repeat (first | (with_reducible exact Below.refl _ _) | (with_reducible refine below_ov ?_ ?_) | (with_reducible refine Below.setCell ?_ ?_ _) | (with_reducible refine Below.alloc ?_ ?_ _) | (with_reducible refine Below.drew ?_) | (with_reducible refine below_drewN ?_ _) | (refine Below.trans ?_ (Below.mono ‹Below _ _ _› (by first | omega | (simp; done) | (simp; omega)))) | exact Below.refl _ _ | omega | (focus (simp; done)) | (focus (simp; omega)))) hhi) (by simp; omega) hf).mono ?_
  rintro e w0 ⟨rfl, hb0⟩
  have hz0 := hb0.size
  simp at hz0
  have hb00 : Below w.heap.size w w0 := (by repeat (first | (with_reducible exact Below.refl _ _) | (with_reducible refine below_ov ?_ ?_) | (with_reducible refine Below.setCell ?_ ?_ _) | (with_reducible refine Below.alloc ?_ ?_ _) | (with_reducible refine Below.drew ?_) | (with_reducible refine below_drewN ?_ _) | (refine Below.trans ?_ (Below.mono ‹Below _ _ _› (by first | omega | (simp; done) | (simp; omega)))) | exact Below.refl _ _ | omega | (focus (simp; done)) | (focus (simp; omega))))
  have B0 : Bx2 w0 w.heap.size r c := ((Bx2.new w r c).below ((Below.refl _ _).alloc (Nat.le_refl _) _) (by simp)).below hb0 (by simp; omega)
  have R0 : Bx2 w0 (w.heap.size + 1) 0 0 := by
    have h := Bx2.new (w.alloc (.cells #[.int .i64 r, .int .i64 c] 38)) 0 0
    simp only [World.size_alloc] at h
    exact h.below hb0 (by simp)
  cases e0 : flB F n with
  | false =>
    have HX : Hid (sfOk F n r c = false) := by show _ = _; rw [sfOk, e0]; rfl
    obtain ⟨r0, r1, rf, rl⟩ := R0
    clear B0
    go_wp2_with fail
    refine bodyPost_ret (v := .tuple #[.agg #[.int .i64 0, .int .i64 0], .int .i64 0, .bool false]) (by simp [results, Tryd.results33, go_sem, *]) rfl (fa_nil HX.out ?_)
    exact (hb00.setCell (by simp) _).setCell (by simp) _
  | true =>
  have HG := hide e0
  have HB0 := hide B0
  have HR0 := hide R0
  obtain ⟨p0, p1, pf, pl⟩ := B0
  clear e0 R0
  go_wp2_with fail
  refine (isOpen_any F n r c lo hi _ _ (hv.below (B := w.heap.size) hb00 hhi) (by omega) HG.out).mono ?_
  rintro e w1 ⟨rfl, hb1⟩
  have hz1 := hb1.size
  have hb01 : Below w.heap.size w w1 := hb00.trans (hb1.mono (by omega))
  have B1 := HB0.out.below hb1 pl
  have R1 := HR0.out.below hb1 HR0.out.lt
  clear p0 p1 pf pl
  cases e1 : opB F n r c with
  | false =>
    have HX : Hid (sfOk F n r c = false) := by show _ = _; rw [sfOk, e1]; simp
    obtain ⟨r0, r1, rf, rl⟩ := R1
    clear B1
    go_wp2_with fail
    refine bodyPost_ret (v := .tuple #[.agg #[.int .i64 0, .int .i64 0], .int .i64 0, .bool false]) (by simp [results, Tryd.results33, go_sem, *]) rfl (fa_nil HX.out ?_)
    exact (hb01.setCell (by simp) _).setCell (by simp) _
  | true =>
    have HS : Hid (sfOk F n r c = true) := by show _ = _; rw [sfOk, HG.out, e1]; rfl
    have HO1 := hide e1
    have HBD : Hid (∀ i, -1 ≤ stF F n (r, c) i ∧ stF F n (r, c) i ≤ 1000) := fun i => by
      have := stF_bd (F := F) (n := n) (a := (r, c)) HO1.out i
      have := fl_area HG.out
      omega
    clear e1
    have har := fl_area HG.out
    obtain ⟨g1, g2, g3, g4, _, _⟩ := flB_facts HG.out
    obtain ⟨blk, off, rfl, h1, h2, h3⟩ := hA (by omega)
    have c0 : w.cell? ⟨blk, off, none⟩ = some (.string (F 0)) := by simpa [sC] using h3 0 0 (by omega) (by omega)
    have l0 : blk < w.heap.size := by omega
    have c1 : w1.cell? ⟨blk, off, none⟩ = some (.string (F 0)) := (hb01.cell (p := ⟨blk, off, none⟩) l0).trans c0
    have hn0 : n ≠ 0 := by omega
    have hW0 : ((F 0).size : Int) ≠ 0 := by omega
    have HB1 := hide B1
    have HR1 := hide R1
    have HC1 := hide c1
    have hl1 : blk < w1.heap.size := by omega
    clear hA h3 c0 B1 R1 c1
    go_wp2_with fail
    refine wp_region_mixd [(0, true), (1, true), (3, true), (4, true), (5, true), (6, true), (2, false), (7, true), (8, true)] (fun W => Below w1.heap.size w1 W) (by kernel_rfl) (by kernel_rfl) (by kernel_rfl) (by kernel_rfl) (Below.drew (Below.refl _ _)) ?_
    intro wd hwd hbd
    have hzd := hbd.size
    have HCC : Hid (∀ W, Below w1.heap.size w1 W → (W.cell? ⟨w.heap.size, 0, none⟩ = some (.int .i64 r) ∧ W.cell? ⟨w.heap.size, 1, none⟩ = some (.int .i64 c)) ∧ W.cell? ⟨blk, off, none⟩ = some (.string (F 0))) := fun W hW =>
      ⟨⟨(HB1.out.below hW HB1.out.lt).c0, (HB1.out.below hW HB1.out.lt).c1⟩, (hW.cell (p := ⟨blk, off, none⟩) hl1).trans HC1.out⟩
    refine mix_look _ _ rfl rfl (fun w' _ => BigFrame.run_move _ rfl w') ?_
    go_simp
    refine mix_look _ (.agg #[.int .i64 r, .int .i64 c]) rfl rfl (fun w' hw' => (by obtain ⟨⟨a0, a1⟩, a2⟩ := HCC.out w' hw'; go_simp)) ?_
    go_simp
    refine mix_look _ _ rfl rfl (fun w' _ => BigFrame.run_move _ rfl w') ?_
    go_simp
    refine mix_look _ (.pointer (some ⟨blk, off, none⟩)) rfl rfl (fun w' hw' => (by go_simp)) ?_
    go_simp
    refine mix_look _ (.string (F 0)) rfl rfl (fun w' hw' => (by obtain ⟨⟨a0, a1⟩, a2⟩ := HCC.out w' hw'; go_simp)) ?_
    go_simp
    refine mix_look _ (.int .i64 (F 0).size) rfl rfl (fun w' hw' => (by go_simp)) ?_
    go_simp
    refine mix_call _ 72 #[.slice (some ⟨blk, off, none⟩) n capF, .agg #[.int .i64 r, .int .i64 c]] rfl rfl (by go_simp) ?_
    refine (stepsFrom_any F n r c lo hi _ _ (hv.below (B := w.heap.size) (hb01.trans (hbd.mono (by omega))) hhi) (by omega) HG.out HO1.out).mono ?_
    rintro e w3 ⟨g, rfl, ho, hg1, hg2, hb3⟩
    have hz3 := hb3.size
    have hb13 : Below w1.heap.size w1 w3 := hbd.trans (hb3.mono (by omega))
    refine ⟨_, rfl, hb13, ?_⟩
    go_simp
    refine mix_look _ _ rfl rfl (fun w' _ => BigFrame.run_assign _ rfl w') ?_
    go_simp
    refine mix_look _ _ rfl rfl (fun w' _ => BigFrame.run_assign _ rfl w') ?_
    go_simp
    refine wpMix_nil ?_
    have HR3 := hide (HR1.out.below hb13 HR1.out.lt)
    have HOC : Hid (∀ j, j < n * (F 0).size → w3.cell? ⟨g, j, none⟩ = some (.int .i64 (stF F n (r, c) j))) := fun j hj => (ho.cell (by omega) (o := j) (by omega)).2.2 hj
    have hb03 : Below w.heap.size w w3 := hb01.trans (hb13.mono (by omega))
    clear ho HCC hwd
    have hN : n * (F 0).size ≤ 144 := har.2
    have hN1 : 1 ≤ n * (F 0).size := har.1
    clear har
    obtain ⟨N, HN⟩ : ∃ N, N = n * (F 0).size := ⟨_, rfl⟩
    rw [← HN] at HOC hN hN1
    (try rw [← HN])
    have HNN := hide HN
    clear HN
    go_wp2_with fail
    refine (Max_row (stF F n (r, c)) N g _ hN1 (by omega) (fun i => (HBD.out i).1) _ HOC.out).mono ?_
    rintro e w4 ⟨rfl, hw4⟩
    obtain rfl := hw4
    go_wp2_with fail
    refine (Index_row (stF F n (r, c)) N g _ hN1 (by omega) (fun i => (HBD.out i).1) _ HOC.out).mono ?_
    rintro e w5 ⟨rfl, hw5⟩
    obtain rfl := hw5
    have hmx := mxF_bd HBD.out (by omega) N
    obtain ⟨K, HK⟩ : ∃ K, K = (mxF (stF F n (r, c)) N).2 := ⟨_, rfl⟩
    obtain ⟨M, HM⟩ : ∃ M, M = (mxF (stF F n (r, c)) N).1 := ⟨_, rfl⟩
    have HFA : Hid (faK F n r c = (M, K)) := by show _ = _; rw [faK, ← HNN.out, HK, HM]
    rw [← HK, ← HM] at hmx
    rw [← HK, ← HM]
    clear HK HM HOC
    obtain ⟨z1, z2⟩ := div_in K (F 0).size (by omega)
    have Z3 : Hid ((K : Int).tmod ((F 0).size : Int) = (K : Int) % ((F 0).size : Int)) := Int.tmod_eq_emod_of_nonneg (by omega)
    have hW1 : (F 0).size ≠ 0 := by omega
    go_wp2_with fail
    refine wp_region_mixd [(0, true), (1, true), (2, true), (3, true), (4, true), (5, true), (6, true), (7, true), (8, false), (9, true), (10, true)] (fun W => Below w.heap.size w W) (by kernel_rfl) (by kernel_rfl) (by kernel_rfl) (by kernel_rfl) (Below.drew hb03) ?_
    intro we hwe hbe
    have R5 : Bx2 we (w.heap.size + 1) 0 0 := by
      rw [hwe.out]
      exact HR3.out.below (Below.drew (Below.refl _ _)) HR3.out.lt
    refine mix_look _ _ rfl rfl (fun w' _ => BigFrame.run_move _ rfl w') ?_
    go_simp
    refine mix_look _ _ rfl rfl (fun w' _ => BigFrame.run_move _ rfl w') ?_
    go_simp
    refine mix_look _ (.int .i64 ((K : Int) / ((F 0).size : Int))) rfl rfl (fun w' hw' => (by go_simp)) ?_
    go_simp
    refine mix_look _ _ rfl rfl (fun w' _ => BigFrame.run_move _ rfl w') ?_
    go_simp
    refine mix_look _ _ rfl rfl (fun w' _ => BigFrame.run_move _ rfl w') ?_
    go_simp
    refine mix_look _ (.int .i64 ((K : Int) % ((F 0).size : Int))) rfl rfl (fun w' hw' => (by go_simp; exact Z3.out)) ?_
    go_simp
    refine mix_look _ (.agg #[.int .i64 ((K : Int) / ((F 0).size : Int)), .int .i64 ((K : Int) % ((F 0).size : Int))]) rfl rfl (fun w' hw' => (by go_simp)) ?_
    go_simp
    refine mix_look _ _ rfl rfl (fun w' _ => BigFrame.run_move _ rfl w') ?_
    go_simp
    obtain ⟨w6, W6⟩ : ∃ W, W = (we.setCell ⟨w.heap.size + 1, 0, none⟩ (.int .i64 ((K : Int) / ((F 0).size : Int)))).setCell ⟨w.heap.size + 1, 1, none⟩ (.int .i64 ((K : Int) % ((F 0).size : Int))) := ⟨_, rfl⟩
    have B6 : Bx2 w6 (w.heap.size + 1) ((K : Int) / ((F 0).size : Int)) ((K : Int) % ((F 0).size : Int)) := by rw [W6]; exact R5.set _ _
    have hb6 : Below w.heap.size w w6 := by rw [W6]; exact (hbe.setCell (by simp) _).setCell (by simp) _
    have HW6 := hide W6
    clear W6
    obtain ⟨r0, r1, rf, rl⟩ := R5
    refine mix_store _ w6 rfl rfl (by rw [HW6.out]; go_simp) hb6 ?_
    clear r0 r1 rf rl
    go_simp
    refine mix_look _ _ rfl rfl (fun w' _ => BigFrame.run_assign _ rfl w') ?_
    go_simp
    refine mix_look _ _ rfl rfl (fun w' _ => BigFrame.run_assign _ rfl w') ?_
    go_simp
    refine wpMix_nil ?_
    obtain ⟨r0, r1, rf, rl⟩ := B6
    go_wp2_with fail
    refine bodyPost_ret (v := .tuple #[.agg #[.int .i64 ((K : Int) / ((F 0).size : Int)), .int .i64 ((K : Int) % ((F 0).size : Int))], .int .i64 M, .bool true]) (by simp [results, Tryd.results33, go_sem, *]) rfl (fa_at HS.out HFA.out hb6)

end Go.Proofs.YtpckhpkbdanjoaaDoor

/-
  Walks: the searched cells: the program's and the reference's.-/
namespace Go.Proofs.YtpckhpkbdanjoaaDoor
set_option linter.unusedVariables false
set_option linter.unusedSimpArgs false
open Go.RowKit

/-- A row's block is of its own type. -/
theorem row_apart {w : World} {lo E sz n b : Nat} {v : Value} {xs : List Value} {o : Obj} (h : w.ownsRow lo E sz v n xs) (hb : w.heap[b]? = some o) (ho : ∀ cs k, o ≠ .cells cs E k) : ∀ g, v.ownBlock = some g → g ≠ b := by
  intro g hg e
  subst e
  rcases h.2 with ⟨rfl, _⟩ | ⟨g', cap, cur, rfl, _, hh, _⟩
  · cases hg
  · cases hg
    rw [hb] at hh
    exact ho _ _ (Option.some.inj hh)
theorem row_keep {w w' : World} {lo E sz n : Nat} {v : Value} {xs : List Value} (h : w.ownsRow lo E sz v n xs) (hk : ∀ g, v.ownBlock = some g → w'.heap[g]? = w.heap[g]?) : w'.ownsRow lo E sz v n xs := by
  obtain ⟨hl, h1⟩ := id h
  refine ⟨hl, ?_⟩
  rcases h1 with h1 | ⟨g, cap, cur, rfl, hg, hh, r⟩
  · exact .inl h1
  · exact .inr ⟨g, cap, cur, rfl, hg, by rw [hk g rfl]; exact hh, r⟩
def seOk (F : Nat → ByteArray) (n : Nat) (p q : Nat → Int) (m : Nat) : Bool := flB F n && decide (m ≤ 1000) && allB (fun t => opB F n (p t) (q t)) m
def seP (F : Nat → ByteArray) (n : Nat) (p q : Nat → Int) (m : Nat) : Nat → Bool := nrF F n p q m
def seN (F : Nat → ByteArray) (n : Nat) (p q : Nat → Int) (m : Nat) : Nat := if seOk F n p q m = true then (flt (nrF F n p q m) (n * (F 0).size)).length else 0
def seR (F : Nat → ByteArray) (n : Nat) (p q : Nat → Int) (m : Nat) : Nat → Int := rI (F 0).size (nrF F n p q m) (n * (F 0).size)
def seC (F : Nat → ByteArray) (n : Nat) (p q : Nat → Int) (m : Nat) : Nat → Int := cI (F 0).size (nrF F n p q m) (n * (F 0).size)
theorem se_facts {F : Nat → ByteArray} {n m : Nat} {p q : Nat → Int} (h : seOk F n p q m = true) : flB F n = true ∧ m ≤ 1000 ∧ ∀ t, t < m → opB F n (p t) (q t) = true := by
  simp only [seOk, Bool.and_eq_true, decide_eq_true_eq, allB_iff] at h
  exact ⟨h.1.1, h.1.2, h.2⟩
theorem seN_le {F : Nat → ByteArray} {n m : Nat} {p q : Nat → Int} : seN F n p q m ≤ 1048576 := by
  unfold seN
  split
  · rename_i h
    have h1 := (fl_area (se_facts h).1).2
    have h2 := flt_len (nrF F n p q m) (n * (F 0).size)
    omega
  · omega
set_option maxRecDepth 100000 in
set_option maxHeartbeats 3200000 in
theorem seCells_any (F : Nat → ByteArray) (n : Nat) (f : Nat → Int) (L lo hi lo2 hi2 : Nat) (v u : Value) (w : World) (hv : Sl w lo hi 1 v n (sC F)) (hhi : hi ≤ w.heap.size) (hu : Sl w lo2 hi2 1 u L (iC f)) (hhi2 : hi2 ≤ w.heap.size) (hg : flB F n = true) (hL : L ≤ 1000) (hf : ∀ i, i < L → 0 ≤ f i ∧ f i ≤ 1000) :
    Calls Tryd.prog 54 #[v, u] w fun e w' => ∃ v', e = .returned v' ∧ w'.ownsRow w.heap.size 38 2 v' L (rowL (iiC (fun i => f i / ((F 0).size : Int)) (fun i => f i % ((F 0).size : Int))) 2 L) ∧ Below w.heap.size w w' := by
  obtain ⟨A, cap, rfl, hcap, hA⟩ := hu.open_
  have HG := hide hg
  have HV := hide hv
  have HF : Hid (∀ i, i < L → 0 ≤ f i ∧ f i ≤ 1000) := hf
  obtain ⟨ii, hii, iz0, iz1, iz2⟩ := info_parts infoCell2
  clear hg hv hu hf
  go_enter Tryd.func54, Tryd.ntmps54
  go_wp2_with fail
  go_loopg [5, 10] (L + 1) (fun gn a b wr => ∃ t : Nat, t ≤ L ∧ L - t < gn ∧ b = .int .i64 t ∧ Hid (wr.ownsRow w.heap.size 38 2 a t (rowL (iiC (fun i => f i / ((F 0).size : Int)) (fun i => f i % ((F 0).size : Int))) 2 t)) ∧ Hid (Below w.heap.size w wr))
  case atStart => exact ⟨0, by omega, by omega, rfl, World.ownsRow_nil _ _ _ _, Below.refl _ _⟩
  case round =>
    obtain ⟨t, ht, hgt, rfl, HR, HB⟩ := hrel
    have hz := HB.out.size
    by_cases htL : t < L
    · obtain ⟨blk, off, rfl, h1, h2, h3⟩ := hA (by omega)
      obtain ⟨k, hk⟩ : ∃ k : Nat, f t = k := ⟨(f t).toNat, by have := (HF.out t htL).1; omega⟩
      have hk9 : k ≤ 1000 := by have := (HF.out t htL).2; omega
      have l0 : blk < wr.heap.size := by omega
      have c0 : wr.cell? ⟨blk, off + t, none⟩ = some (.int .i64 k) := by
        refine (HB.out.cell (p := ⟨blk, off + t, none⟩) (by show blk < _; omega)).trans ?_
        have := h3 t 0 htL (by omega)
        simpa [iC, hk] using this
      have HK := hide hk
      clear hA h3 hk
      go_wp2_with fail
      refine (seCell_any F n k lo hi _ _ (HV.out.below (B := w.heap.size) HB.out hhi) (by omega) HG.out hk9).mono ?_
      rintro e w2 ⟨rfl, hb2⟩
      have hz2 := hb2.size
      have hr2 := row_below HR.out hb2 (Nat.le_refl _)
      have HB2 : Hid (Below w.heap.size w w2) := HB.out.trans (hb2.mono hz)
      go_wp2_with (at_builtin; refine wpList_append_own _ rfl _ _ 26 rfl w.heap.size 38 ii (.agg #[.int .i64 0, .int .i64 0]) 2 16 Tryd.underlying26 hii iz0 iz1 iz2 rfl (by decide) _ _ _ rfl (hr2.alloc _) ⟨w2.heap.size, 0, none⟩ 1 1 [.int .i64 ((k : Int) / ((F 0).size : Int)), .int .i64 ((k : Int) % ((F 0).size : Int))] rfl rfl ?_ ?_ ?_ ?_ ?_ ?_)
      · intro i u hu
        match i, hu with
        | 0, hu => simp at hu; subst hu; simp [go_sem, Addr.add]
        | 1, hu => simp at hu; subst hu; simp [go_sem, Addr.add]
      · intro u hu; simp at hu; rcases hu with rfl | rfl <;> rfl
      · unfold maxLen; omega
      · omega
      · simp; omega
      intro v' w3 hown3 hg3 _
      have HB3 : Hid (Below w.heap.size w w3) := (HB2.out.alloc (by omega) _).grown hg3 (by simp; omega) (fun g hg => (hr2.lt g hg).1)
      have HR3 : Hid (w3.ownsRow w.heap.size 38 2 v' (t + 1) (rowL (iiC (fun i => f i / ((F 0).size : Int)) (fun i => f i % ((F 0).size : Int))) 2 (t + 1))) := by
        have e : rowL (iiC (fun i => f i / ((F 0).size : Int)) (fun i => f i % ((F 0).size : Int))) 2 (t + 1) = rowL (iiC (fun i => f i / ((F 0).size : Int)) (fun i => f i % ((F 0).size : Int))) 2 t ++ [.int .i64 ((k : Int) / ((F 0).size : Int)), .int .i64 ((k : Int) % ((F 0).size : Int))] := by
          rw [rowL, ← HK.out]; rfl
        show World.ownsRow _ _ _ _ _ _ _
        rw [e]
        exact hown3
      clear hown3 hg3 hr2
      go_wp2_with fail
      go_roundg (L - t)
      case measure => omega
      case rel => exact ⟨t + 1, by omega, by omega, by go_num, HR3.out, HB3.out⟩
    · obtain rfl : t = L := by omega
      go_wp2_with fail
      go_ret
      exact ⟨_, rfl, HR.out, HB.out⟩
set_option maxRecDepth 100000 in
set_option maxHeartbeats 6400000 in
theorem searchedCells_any (F : Nat → ByteArray) (n : Nat) (p q : Nat → Int) (m lo hi lo2 hi2 : Nat) (v u : Value) (w : World) (hv : Sl w lo hi 1 v n (sC F)) (hhi : hi ≤ w.heap.size) (hu : Sl w lo2 hi2 2 u m (iiC p q)) (hhi2 : hi2 ≤ w.heap.size) (hg : flB F n = true) (hm : m ≤ 1000) (hop : ∀ t, t < m → opB F n (p t) (q t) = true) :
    Calls Tryd.prog 60 #[v, u] w fun e w' => ∃ v', e = .returned v' ∧ w'.ownsRow w.heap.size 38 2 v' (flt (nrF F n p q m) (n * (F 0).size)).length (fltC (F 0).size (nrF F n p q m) (n * (F 0).size)) ∧ Below w.heap.size w w' := by
  obtain ⟨A, cap, rfl, hcap, hA⟩ := id hv.open_
  obtain ⟨A2, cap2, rfl, hcap2, _⟩ := id hu.open_
  obtain ⟨g1, g2, g3, g4, _, g6⟩ := flB_facts hg
  obtain ⟨blk, off, rfl, h1, h2, h3⟩ := hA (by omega)
  have c0 : w.cell? ⟨blk, off, none⟩ = some (.string (F 0)) := by simpa [sC] using h3 0 0 (by omega) (by omega)
  have l0 : blk < w.heap.size := by omega
  obtain ⟨W, hW⟩ : ∃ W, W = (F 0).size := ⟨_, rfl⟩
  have hW12 : W ≤ 12 := by omega
  have HASC : Hid (∀ y, (h : y < (F 0).size) → ((F 0)[y]'h).toNat < 128) := fun y h => by
    have h5 := g6 0 y (by omega) h
    have h6 := byteAt_eq h
    omega
  have HWP : Hid (∀ t, t < m → (0 ≤ p t ∧ p t ≤ 1000) ∧ 0 ≤ q t ∧ q t ≤ 1000) := fun t ht => by
    obtain ⟨b1, b2, _⟩ := opB_iff.1 (hop t ht)
    omega
  obtain ⟨ii, hii, iz0, iz1, iz2⟩ := info_parts infoCell2
  have HG := hide hg
  have HV := hide hv
  have HU := hide hu
  have HC0 := hide c0
  rw [← hW]
  have HW := hide hW
  clear hg hv hu hA h3 hop g6 c0 hW g3 g4
  go_enter Tryd.func60, Tryd.ntmps60
  go_wp2_with fail
  go_loopg [5, 12] (n + 1) (fun gn a b wr => ∃ x : Nat, x ≤ n ∧ n - x < gn ∧ b = .int .i64 x ∧ Hid (wr.ownsRow w.heap.size 38 2 a (flt (nrF F n p q m) (x * W)).length (fltC W (nrF F n p q m) (x * W))) ∧ Hid (Below w.heap.size w wr))
  case atStart => exact ⟨0, by omega, by omega, rfl, (by rw [Nat.zero_mul]; exact World.ownsRow_nil _ _ _ _), Below.refl _ _⟩
  case round =>
    obtain ⟨x, hx, hgx, rfl, HR, HB⟩ := hrel
    have hz := HB.out.size
    by_cases hxn : x < n
    · have c0 : wr.cell? ⟨blk, off, none⟩ = some (.string (F 0)) := (HB.out.cell (p := ⟨blk, off, none⟩) l0).trans HC0.out
      have lb : blk < wr.heap.size := by omega
      obtain ⟨wo, ewo⟩ : ∃ wo : World, wo = wr := ⟨_, rfl⟩
      subst ewo
      go_wp2_with fail
      clear c0
      go_loopg [5] (W + 1) (fun gn a wr' => ∃ y : Nat, y ≤ W ∧ W - y < gn ∧ Hid (wr'.ownsRow w.heap.size 38 2 a (flt (nrF F n p q m) (x * W + y)).length (fltC W (nrF F n p q m) (x * W + y))) ∧ Hid (Below w.heap.size w wr') ∧ Hid (wr'.heap[wo.heap.size]? = some (.cells #[.int .i64 x] 3 (0, 0))) ∧ Hid (wr'.heap[wo.heap.size + 1]? = some (.stringIter (F 0) y)))
      case atStart =>
        have ba : Below wo.heap.size wo ((wo.alloc (.cells #[.int .i64 x] 3)).iter (F 0) 0) := ((Below.refl _ _).alloc (Nat.le_refl _) _).alloc (by simp) _
        exact ⟨0, by omega, by omega, row_below HR.out ba (Nat.le_refl _), HB.out.trans (ba.mono hz), (Deep.blk_alloc_lt _ _ _ (by simp)).trans (heap_alloc_new _ _), by show _ = _; simpa using World.iter_heap (wo.alloc (.cells #[.int .i64 x] 3)) (F 0) 0⟩
      case round =>
        obtain ⟨y, hy, hgy, HR2, HB2, HRB, HIT⟩ := hrel
        have hz2 := HB2.out.size
        have lit : wo.heap.size + 1 < wr.heap.size := (Array.getElem?_eq_some_iff.1 HIT.out).1
        by_cases hyW : y < W
        · have hys : y < (F 0).size := by have := HW.out; omega
          have hnx := fun ty => run_next_at (P := Tryd.prog) wr (wo.heap.size + 1) (F 0) y ty HIT.out hys (HASC.out y hys)
          obtain ⟨W1, hW1⟩ : ∃ W1, W1 = setIter wr (wo.heap.size + 1) (F 0) (y + 1) := ⟨_, rfl⟩
          rw [← hW1] at hnx
          have HIT1 : Hid (W1.heap[wo.heap.size + 1]? = some (.stringIter (F 0) (y + 1))) := by show _ = _; rw [hW1]; exact setIter_at lit _ _
          have HRB1 : Hid (W1.heap[wo.heap.size]? = some (.cells #[.int .i64 x] 3 (0, 0))) := by show _ = _; rw [hW1, setIter_other (by omega)]; exact HRB.out
          have HB1 : Hid (Below w.heap.size w W1) := by show Below _ _ _; rw [hW1]; exact setIter_below HB2.out (by omega) _ _
          have HR1 : Hid (W1.ownsRow w.heap.size 38 2 u5 (flt (nrF F n p q m) (x * W + y)).length (fltC W (nrF F n p q m) (x * W + y))) := by
            show World.ownsRow _ _ _ _ _ _ _
            rw [hW1]
            exact row_keep HR2.out fun g hg => setIter_other (row_apart HR2.out HIT.out (fun _ _ h => by cases h) g hg) _ _
          have lW1 : W1.heap.size = wr.heap.size := by rw [hW1, setIter_size]
          clear hW1
          have r0 : W1.cell? ⟨wo.heap.size, 0, none⟩ = some (.int .i64 x) := by simp [World.cell?, HRB1.out]
          have lr1 : wo.heap.size < W1.heap.size := by omega
          have lr2 : wo.heap.size + 1 < W1.heap.size := by omega
          have LW1 := hide lW1
          clear lW1 lit
          go_wp2_with fail
          clear r0 lr1 hnx
          obtain ⟨cb, hcb⟩ : ∃ cb, cb = W1.heap.size := ⟨_, rfl⟩
          obtain ⟨W2, hW2⟩ : ∃ W2, W2 = (W1.alloc (.cells #[.int .i64 y] 3)).alloc (.cells #[.int .i64 x, .int .i64 y] 38) := ⟨_, rfl⟩
          have ba : Below W1.heap.size W1 W2 := by rw [hW2]; exact ((Below.refl _ _).alloc (Nat.le_refl _) _).alloc (by simp) _
          have HCB2 : Hid (W2.heap[cb]? = some (.cells #[.int .i64 y] 3 (0, 0))) := by show _ = _; rw [hW2, hcb]; exact (Deep.blk_alloc_lt _ _ _ (by simp)).trans (heap_alloc_new _ _)
          have HBX2 : Hid (Bx2 W2 (cb + 1) x y) := by show Bx2 _ _ _ _; rw [hW2, hcb]; simpa using Bx2.new (W1.alloc (.cells #[.int .i64 y] 3)) (x : Int) (y : Int)
          rw [← hW2, ← hcb]
          have hz1 := HB1.out.size
          have hlt12 := ba.size
          have HIT2 : Hid (W2.heap[wo.heap.size + 1]? = some (.stringIter (F 0) (y + 1))) := (ba.block _ lr2).trans HIT1.out
          have HRB2 : Hid (W2.heap[wo.heap.size]? = some (.cells #[.int .i64 x] 3 (0, 0))) := (ba.block _ (by omega)).trans HRB1.out
          have HB2' : Hid (Below w.heap.size w W2) := HB1.out.trans (ba.mono hz1)
          have HR2' := hide (row_below HR1.out ba (Nat.le_refl _))
          clear hW2 ba hcb HIT1 HRB1 HB1 HR1
          refine (isOpen_any F n x y lo hi _ _ (HV.out.below (B := w.heap.size) HB2'.out hhi) (by have := HB2'.out.size; omega) HG.out).mono ?_
          rintro e w3 ⟨rfl, hb3⟩
          have lb2 := HBX2.out.lt
          have HCB3 : Hid (w3.heap[cb]? = some (.cells #[.int .i64 y] 3 (0, 0))) := (hb3.block _ (by omega)).trans HCB2.out
          have HBX3 : Hid (Bx2 w3 (cb + 1) x y) := HBX2.out.below hb3 lb2
          have HIT3 : Hid (w3.heap[wo.heap.size + 1]? = some (.stringIter (F 0) (y + 1))) := (hb3.block _ (by omega)).trans HIT2.out
          have HRB3 : Hid (w3.heap[wo.heap.size]? = some (.cells #[.int .i64 x] 3 (0, 0))) := (hb3.block _ (by omega)).trans HRB2.out
          have HB3 : Hid (Below w.heap.size w w3) := HB2'.out.trans (hb3.mono HB2'.out.size)
          have HR3 := hide (row_below HR2'.out hb3 (Nat.le_refl _))
          clear HCB2 HBX2 HIT2 HRB2 HB2' HR2' hb3 lb2 hlt12 hz1
          have HNS : Hid (nrF F n p q m (x * W + y) = seT F n p q m x y) := by show _ = _; rw [HW.out]; exact nr_se hys
          cases eo : opB F n x y with
          | false =>
            have HP : Hid (nrF F n p q m (x * W + y) = false) := by show _ = _; rw [HNS.out, seT, eo]; rfl
            go_wp2_with fail
            go_roundg (W - y)
            case measure => omega
            case rel => exact ⟨y + 1, by omega, by omega, (by show World.ownsRow _ _ _ _ _ _ _; rw [← Nat.add_assoc, flt_no HP.out, fltC_no HP.out]; exact HR3.out), HB3.out, HRB3.out, HIT3.out⟩
          | true =>
            have HP : Hid (nrF F n p q m (x * W + y) = anyN x y p q m) := by show _ = _; rw [HNS.out, seT, eo]; rfl
            clear eo
            have lcb := HBX3.out.lt
            have lrb : wo.heap.size < w3.heap.size := (Array.getElem?_eq_some_iff.1 HRB3.out).1
            go_wp2_with fail
            refine (ContainsFuncN_any x y wo.heap.size cb p q m lo2 hi2 _ _ (HU.out.below (B := w.heap.size) HB3.out hhi2) (by have := HB3.out.size; omega) (by omega) (by simp [World.cell?, HRB3.out]) (by simp [World.cell?, HCB3.out]) lrb (by omega) (by omega) (by omega) (by omega) (by omega) HWP.out).mono ?_
            rintro e w4 ⟨rfl, hb4⟩
            have HBX4 : Hid (Bx2 w4 (cb + 1) x y) := HBX3.out.below hb4 lcb
            have HIT4 : Hid (w4.heap[wo.heap.size + 1]? = some (.stringIter (F 0) (y + 1))) := (hb4.block _ (Array.getElem?_eq_some_iff.1 HIT3.out).1).trans HIT3.out
            have HRB4 : Hid (w4.heap[wo.heap.size]? = some (.cells #[.int .i64 x] 3 (0, 0))) := (hb4.block _ lrb).trans HRB3.out
            have HB4 : Hid (Below w.heap.size w w4) := HB3.out.trans (hb4.mono HB3.out.size)
            have HR4 := hide (row_below HR3.out hb4 (Nat.le_refl _))
            obtain ⟨tst, htst⟩ : ∃ b, anyN x y p q m = b := ⟨_, rfl⟩
            rw [htst] at HP
            rw [show decide (0 ≤ fstI (fun t => nearB x y (p t) (q t)) m) = tst from htst]
            clear htst HCB3 HBX3 HIT3 HRB3 HB3 HR3 hb4
            cases tst with
            | false =>
              go_wp2_with fail
              go_roundg (W - y)
              case measure => omega
              case rel => exact ⟨y + 1, by omega, by omega, (by show World.ownsRow _ _ _ _ _ _ _; rw [← Nat.add_assoc, flt_no HP.out, fltC_no HP.out]; exact HR4.out), HB4.out, HRB4.out, HIT4.out⟩
            | true =>
              obtain ⟨q0, q1, qf, ql⟩ := HBX4.out
              have hz4 := HB4.out.size
              have hln := flt_len (nrF F n p q m) (x * W + y)
              have hxW : x * W ≤ 144 := Nat.le_trans (Nat.mul_le_mul (show x ≤ 12 by omega) hW12) (by omega)
              have lit4 : wo.heap.size + 1 < w4.heap.size := (Array.getElem?_eq_some_iff.1 HIT4.out).1
              go_wp2_with (at_builtin; refine wpList_append_own _ rfl _ _ 26 rfl w.heap.size 38 ii (.agg #[.int .i64 0, .int .i64 0]) 2 16 Tryd.underlying26 hii iz0 iz1 iz2 rfl (by decide) _ _ _ rfl (HR4.out.alloc _) ⟨w4.heap.size, 0, none⟩ 1 1 [.int .i64 x, .int .i64 y] rfl rfl ?_ ?_ ?_ ?_ ?_ ?_)
              · intro i u hu
                match i, hu with
                | 0, hu => simp at hu; subst hu; simp [go_sem, Addr.add]
                | 1, hu => simp at hu; subst hu; simp [go_sem, Addr.add]
              · intro u hu; simp at hu; rcases hu with rfl | rfl <;> rfl
              · unfold maxLen; omega
              · omega
              · simp; omega
              intro v' w5 hown5 hg5 _
              have HB5 : Hid (Below w.heap.size w w5) := (HB4.out.alloc (by omega) _).grown hg5 (by simp; omega) (fun g hg => (HR4.out.lt g hg).1)
              have HIT5 : Hid (w5.heap[wo.heap.size + 1]? = some (.stringIter (F 0) (y + 1))) := (hg5.block _ (by simp; omega) (fun e => row_apart HR4.out HIT4.out (fun _ _ h => by cases h) _ e.symm rfl)).trans ((Deep.blk_alloc_lt _ _ _ lit4).trans HIT4.out)
              have HRB5 : Hid (w5.heap[wo.heap.size]? = some (.cells #[.int .i64 x] 3 (0, 0))) := (hg5.block _ (by simp; omega) (fun e => row_apart HR4.out HRB4.out (fun _ _ h => by cases h) _ e.symm rfl)).trans ((Deep.blk_alloc_lt _ _ _ (by omega)).trans HRB4.out)
              have HR5 : Hid (w5.ownsRow w.heap.size 38 2 v' (flt (nrF F n p q m) (x * W + (y + 1))).length (fltC W (nrF F n p q m) (x * W + (y + 1)))) := by
                show World.ownsRow _ _ _ _ _ _ _
                rw [← Nat.add_assoc, fltC_at hyW HP.out, flt_yes HP.out, List.length_append]
                exact hown5
              clear hown5 hg5 q0 q1 qf ql
              go_wp2_with fail
              go_roundg (W - y)
              case measure => omega
              case rel => exact ⟨y + 1, by omega, by omega, HR5.out, HB5.out, HRB5.out, HIT5.out⟩
        · have e : y = W := by omega
          have hnx := fun ty => run_next_done (P := Tryd.prog) wr (wo.heap.size + 1) (F 0) y ty HIT.out (by have := HW.out; omega)
          have HR3 : Hid (wr.ownsRow w.heap.size 38 2 u5 (flt (nrF F n p q m) ((x + 1) * W)).length (fltC W (nrF F n p q m) ((x + 1) * W))) := by
            show World.ownsRow _ _ _ _ _ _ _
            rw [Nat.succ_mul]
            rw [e] at HR2
            exact HR2.out
          clear e
          go_wp2_with fail
          go_roundg (n - x)
          case measure => omega
          case rel => exact ⟨x + 1, by omega, by omega, by go_num, HR3.out, HB2.out⟩
    · obtain rfl : x = n := by omega
      go_wp2_with fail
      go_ret
      exact ⟨_, rfl, HR.out, HB.out⟩

end Go.Proofs.YtpckhpkbdanjoaaDoor
