/-
  Walks: the reference's list of the open cells on a way or next to it. 
-/
import Derived.Test.YtpckhpkbdanjoaaDoorWPutI2
import Derived.Test.YtpckhpkbdanjoaaDoorPNear
import Derived.Test.YtpckhpkbdanjoaaDoorWFlr2
import Derived.Test.YtpckhpkbdanjoaaDoorWWay
namespace Go.Proofs.YtpckhpkbdanjoaaDoor
set_option linter.unusedVariables false
set_option linter.unusedSimpArgs false
open Go.RowKit

theorem nflt : ∀ n, flt (fun _ => false) n = []
  | 0 => rfl
  | n + 1 => by rw [flt, nflt n]; rfl
set_option maxRecDepth 100000 in
set_option maxHeartbeats 3200000 in
theorem seNear_any (F : Nat → ByteArray) (n : Nat) (p q : Nat → Int) (m lo hi lo2 hi2 : Nat) (v u : Value) (w : World) (hv : Sl w lo hi 1 v n (sC F)) (hhi : hi ≤ w.heap.size) (hu : Sl w lo2 hi2 2 u m (iiC p q)) (hhi2 : hi2 ≤ w.heap.size) (hg : flB F n = true) (hm : m ≤ 1000) (hop : ∀ t, t < m → opB F n (p t) (q t) = true) :
    Calls Tryd.prog 55 #[v, u] w fun e w' => ∃ v', e = .returned v' ∧ PRowI w' w.heap.size v' (nrF F n p q m) (n * (F 0).size) ∧ Below w.heap.size w w' := by
  obtain ⟨A, cap, rfl, hcap, hA⟩ := hu.open_
  have HG := hide hg
  have HV := hide hv
  have HOP : Hid (∀ t, t < m → opB F n (p t) (q t) = true) := hop
  clear hg hop hv
  go_enter Tryd.func55, Tryd.ntmps55
  go_wp2_with fail
  have hwW : n * (F 0).size ≤ 1000 := by
    have h := HG.out
    obtain ⟨g1, g2, g3, g4, g5, _⟩ := flB_facts h
    have := Nat.mul_le_mul g2 g4
    omega
  go_loopg [5, 13] (m + 1) (fun gn a b wr => ∃ t : Nat, t ≤ m ∧ m - t < gn ∧ b = .int .i64 t ∧ Hid (PRowI wr w.heap.size a (nrF F n p q t) (n * (F 0).size)) ∧ Hid (Below w.heap.size w wr))
  case atStart => exact ⟨0, by omega, by omega, rfl, (by show PRowI _ _ _ _ _; rw [PRowI, fltV, nrF, nflt]; exact World.ownsRow_nil _ _ _ _), Below.refl _ _⟩
  case round =>
    obtain ⟨t, ht, hgt, rfl, HR, HB⟩ := hrel
    have hz := HB.out.size
    by_cases htm : t < m
    · have d1 : decide ((t : Int) < (m : Int)) = true := decide_eq_true (by omega)
      have d1' : decide (t < m) = true := decide_eq_true htm
      obtain ⟨blk, off, rfl, h1, h2, h3⟩ := hA (by omega)
      have l0 : blk < w.heap.size := by omega
      have c0 : wr.cell? ⟨blk, off + t * 2, none⟩ = some (.int .i64 (p t)) := (HB.out.cell (p := ⟨blk, off + t * 2, none⟩) l0).trans (by simpa [iiC] using h3 t 0 htm (by omega))
      have c1 : wr.cell? ⟨blk, off + t * 2 + 1, none⟩ = some (.int .i64 (q t)) := (HB.out.cell (p := ⟨blk, off + t * 2 + 1, none⟩) l0).trans (by simpa [iiC] using h3 t 1 htm (by omega))
      clear hA h3 hu
      go_wp2_with fail
      obtain ⟨bb, hbb⟩ : ∃ bb, bb = wr.heap.size := ⟨_, rfl⟩
      rw [← hbb]
      have HBB := hide hbb
      clear hbb
      go_loopg [5, 8] 4 (fun gn a b wr' => ∃ j : Nat, j ≤ 3 ∧ 3 - j < gn ∧ b = .int .i64 ((j : Int) - 1) ∧ Hid (PRowI wr' w.heap.size a (nrR F n (nrF F n p q t) (p t) (q t) j) (n * (F 0).size)) ∧ Hid (Below w.heap.size w wr') ∧ Hid (Bx2 wr' bb (p t) (q t)))
      case atStart => exact ⟨0, by omega, by omega, rfl, row_below HR.out ((Below.refl _ _).alloc (Nat.le_refl _) _) (Nat.le_refl _), HB.out.alloc (by omega) _, (by rw [HBB.out]; exact Bx2.new _ _ _)⟩
      case round =>
        obtain ⟨j, hj, hgj, rfl, HR2, HB2, HX2⟩ := hrel
        by_cases hj3 : j < 3
        · have d2 : decide (((j : Int) - 1) ≤ 1) = true := decide_eq_true (by omega)
          have hz2 := HB2.out.size
          obtain ⟨x0, x1, xf, xl⟩ := HX2.out
          go_wp2_with fail
          go_loopg [5, 9] 4 (fun gn a b wr3 => ∃ k : Nat, k ≤ 3 ∧ 3 - k < gn ∧ b = .int .i64 ((k : Int) - 1) ∧ Hid (PRowI wr3 w.heap.size a (nrK F n (nrR F n (nrF F n p q t) (p t) (q t) j) (p t + ((j : Int) - 1)) (q t) k) (n * (F 0).size)) ∧ Hid (Below w.heap.size w wr3) ∧ Hid (Bx2 wr3 bb (p t) (q t)))
          case atStart => exact ⟨0, by omega, by omega, rfl, HR2.out, HB2.out, HX2.out⟩
          case round =>
            obtain ⟨k, hk, hgk, rfl, HR3, HB3, HX3⟩ := hrel
            have hz3 := HB3.out.size
            clear x0 x1 xf xl
            by_cases hk3 : k < 3
            · have d3 : decide (((k : Int) - 1) ≤ 1) = true := decide_eq_true (by omega)
              obtain ⟨x0, x1, xf, xl⟩ := HX3.out
              obtain ⟨b1, b2, _⟩ := opB_iff.1 (HOP.out t htm)
              obtain ⟨g1, g2, g3, g4, g5, _⟩ := flB_facts HG.out
              have z1 : IntKind.i64.wrap (p t + ((j : Int) - 1)) = p t + ((j : Int) - 1) := IntWalk.i64_in _ (by omega)
              have z2 : IntKind.i64.wrap (q t + ((k : Int) - 1)) = q t + ((k : Int) - 1) := IntWalk.i64_in _ (by omega)
              clear b1 b2 g1 g2 g3 g4 g5
              go_wp2_with fail
              refine (seOpen_any F n (p t + ((j : Int) - 1)) (q t + ((k : Int) - 1)) lo hi _ _ (HV.out.below (B := w.heap.size) ?_ hhi) ?_ HG.out).mono ?_
              · exact HB3.out.alloc hz3 _
              · simp; omega
              rintro e w4 ⟨rfl, hb4⟩
              have hz4 := hb4.size
              simp at hz4
              have HX4 := hide ((Bx2.new wr (p t + ((j : Int) - 1)) (q t + ((k : Int) - 1))).below hb4 (by simp))
              have hbw : Below wr.heap.size wr w4 := ((Below.refl wr.heap.size wr).alloc (Nat.le_refl _) _).trans (hb4.mono (by simp))
              have HB4 : Hid (Below w.heap.size w w4) := HB3.out.trans (hbw.mono hz3)
              have HR4 : Hid (PRowI w4 w.heap.size u5 (nrK F n (nrR F n (nrF F n p q t) (p t) (q t) j) (p t + ((j : Int) - 1)) (q t) k) (n * (F 0).size)) := row_below HR3.out hbw (Nat.le_refl _)
              have HY4 : Hid (Bx2 w4 bb (p t) (q t)) := HX3.out.below hbw HX3.out.lt
              clear x0 x1 xf xl hbw hb4
              cases eo : opB F n (p t + ((j : Int) - 1)) (q t + ((k : Int) - 1)) with
              | false =>
                have HN : Hid (nrK F n (nrR F n (nrF F n p q t) (p t) (q t) j) (p t + ((j : Int) - 1)) (q t) (k + 1) = nrK F n (nrR F n (nrF F n p q t) (p t) (q t) j) (p t + ((j : Int) - 1)) (q t) k) := by show _ = _; rw [nrK, if_neg (by rw [eo]; simp)]
                go_wp2_with fail
                go_roundg (3 - k)
                case measure => omega
                case rel => exact ⟨k + 1, by omega, by omega, by go_num, (by show PRowI _ _ _ _ _; rw [HN.out]; exact HR4.out), HB4.out, HY4.out⟩
              | true =>
                have HEO := hide eo
                have HN : Hid (nrK F n (nrR F n (nrF F n p q t) (p t) (q t) j) (p t + ((j : Int) - 1)) (q t) (k + 1) = orP (nrK F n (nrR F n (nrF F n p q t) (p t) (q t) j) (p t + ((j : Int) - 1)) (q t) k) (ixF F (p t + ((j : Int) - 1), q t + ((k : Int) - 1)))) := by show _ = _; rw [nrK, if_pos eo]
                obtain ⟨x0, x1, xf, xl⟩ := HX4.out
                clear eo
                go_wp2_with fail
                refine (seIndex_any F n (p t + ((j : Int) - 1)) (q t + ((k : Int) - 1)) lo hi _ _ (HV.out.below (B := w.heap.size) HB4.out hhi) (by omega) HG.out HEO.out).mono ?_
                rintro e w5 ⟨rfl, hb5⟩
                have hz5 := hb5.size
                have HB5 : Hid (Below w.heap.size w w5) := HB4.out.trans (hb5.mono (by omega))
                have HY5 : Hid (Bx2 w5 bb (p t) (q t)) := HY4.out.below hb5 HY4.out.lt
                have hr5 := row_below HR4.out hb5 (Nat.le_refl _)
                clear x0 x1 xf xl
                go_wp2_with fail
                refine (l1Put_any _ _ (ixF F (p t + ((j : Int) - 1), q t + ((k : Int) - 1))) w.heap.size u5 w5 hr5 (ix_lt (p := (_, _)) HEO.out) hwW HB5.out.size).mono ?_
                rintro e w6 ⟨v6, rfl, hr6, hb6⟩
                have HR6 := hide hr6
                have HB6 : Hid (Below w.heap.size w w6) := HB5.out.trans (hb6.mono HB5.out.size)
                have HY6 : Hid (Bx2 w6 bb (p t) (q t)) := HY5.out.below hb6 HY5.out.lt
                clear hr5 hr6 hb6
                go_wp2_with fail
                go_roundg (3 - k)
                case measure => omega
                case rel => exact ⟨k + 1, by omega, by omega, by go_num, (by show PRowI _ _ _ _ _; rw [HN.out]; exact HR6.out), HB6.out, HY6.out⟩
            · have d3 : decide (((k : Int) - 1) ≤ 1) = false := decide_eq_false (by omega)
              obtain rfl : k = 3 := by omega
              go_wp2_with fail
              go_roundg (3 - j)
              case measure => omega
              case rel => exact ⟨j + 1, by omega, by omega, by go_num, HR3.out, HB3.out, HX3.out⟩
        · have d2 : decide (((j : Int) - 1) ≤ 1) = false := decide_eq_false (by omega)
          obtain rfl : j = 3 := by omega
          go_wp2_with fail
          go_roundg (m - t)
          case measure => omega
          case rel => exact ⟨t + 1, by omega, by omega, by go_num, HR2.out, HB2.out⟩
    · have d1 : decide ((t : Int) < (m : Int)) = false := decide_eq_false (by omega)
      have d1' : decide (t < m) = false := decide_eq_false htm
      obtain rfl : t = m := by omega
      go_wp2_with fail
      go_ret
      exact ⟨_, rfl, HR.out, HB.out⟩

end Go.Proofs.YtpckhpkbdanjoaaDoor
