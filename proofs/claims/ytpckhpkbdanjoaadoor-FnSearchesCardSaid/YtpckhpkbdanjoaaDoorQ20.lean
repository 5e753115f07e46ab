/-
  Texts of this proof, one behind the other (part 20).
-/
import Derived.Test.YtpckhpkbdanjoaaDoorQ19
/-
  Walks: the floor with the letters of the nearest starts: the program's helper.-/
namespace Go.Proofs.YtpckhpkbdanjoaaDoor
set_option linter.unusedVariables false
set_option linter.unusedSimpArgs false
open Go.RowKit

def shS (F : Nat → ByteArray) (n : Nat) (p q : Nat → Int) (j i : Nat) : Int := stF F n (p j, q j) i
def shRows (F : Nat → ByteArray) (st : Nat → Nat → Int) (m x : Nat) : List Value := (List.range x).map fun r => .string (shR F st m r)
theorem shRows_next (F : Nat → ByteArray) (st : Nat → Nat → Int) (m x : Nat) : shRows F st m (x + 1) = shRows F st m x ++ [.string (shR F st m x)] := by
  rw [shRows, shRows, List.range_succ, List.map_append]; rfl
theorem infoIntS : (Tryd.prog.info? 48).map (fun i => (i.zero, i.size, i.bytes)) = some (some (.slice none 0 0), 1, 24) := by kernel_rfl
theorem infoStrS : (Tryd.prog.info? 9).map (fun i => (i.zero, i.size, i.bytes)) = some (some (.string ⟨#[]⟩), 1, 16) := by kernel_rfl
set_option maxRecDepth 100000 in
set_option maxHeartbeats 6400000 in
theorem shareOut_any (F : Nat → ByteArray) (n : Nat) (p q : Nat → Int) (m lo hi lo2 hi2 : Nat) (v u : Value) (w : World) (hv : Sl w lo hi 1 v n (sC F)) (hhi : hi ≤ w.heap.size) (hu : Sl w lo2 hi2 2 u m (iiC p q)) (hhi2 : hi2 ≤ w.heap.size) (hg : flB F n = true) (hm1 : 1 ≤ m) (hm : m ≤ 8) (hop : ∀ t, t < m → opB F n (p t) (q t) = true) :
    Calls Tryd.prog 70 #[v, u] w fun e w' => ∃ v', e = .returned v' ∧ w'.ownsRow w.heap.size 9 1 v' n (shRows F (shS F n p q) m n) ∧ Below w.heap.size w w' := by
  obtain ⟨A, cap, rfl, hcap, hA⟩ := id hv.open_
  obtain ⟨A2, cap2, rfl, hcap2, hA2⟩ := id hu.open_
  obtain ⟨g1, g2, g3, g4, g5, g6⟩ := flB_facts hg
  obtain ⟨blk, off, rfl, h1, h2, h3⟩ := hA (by omega)
  obtain ⟨blk2, off2, rfl, k1, k2, k3⟩ := hA2 (by omega)
  have HC : Hid (∀ x, x < n → w.cell? ⟨blk, off + x, none⟩ = some (.string (F x))) := fun x hx => by
    have := h3 x 0 hx (by omega)
    simpa [sC] using this
  have HC2 : Hid (∀ t, t < m → w.cell? ⟨blk2, off2 + t * 2, none⟩ = some (.int .i64 (p t)) ∧ w.cell? ⟨blk2, off2 + t * 2 + 1, none⟩ = some (.int .i64 (q t))) := fun t ht =>
    ⟨by simpa [iiC] using k3 t 0 ht (by omega), by simpa [iiC] using k3 t 1 ht (by omega)⟩
  have l0 : blk < w.heap.size := by omega
  have l2 : blk2 < w.heap.size := by omega
  have har := fl_area hg
  obtain ⟨N, hN⟩ : ∃ N, N = n * (F 0).size := ⟨_, rfl⟩
  obtain ⟨W, hW⟩ : ∃ W, W = (F 0).size := ⟨_, rfl⟩
  obtain ⟨st, hst⟩ : ∃ st, st = shS F n p q := ⟨_, rfl⟩
  have HST := hide hst
  have HFS : Hid (∀ x, x < n → (F x).size = W) := fun x hx => by rw [g5 x hx, hW]
  have HN := hide hN
  have HW := hide hW
  rw [← hN] at har
  rw [← hW] at g3 g4
  rw [← hst]
  have HG := hide hg
  have HV := hide hv
  have HOP : Hid (∀ t, t < m → opB F n (p t) (q t) = true) := hop
  obtain ⟨ii, hii, iz0, iz1, iz2⟩ := info_parts infoIntS
  obtain ⟨is, his, js0, js1, js2⟩ := info_parts infoStrS
  clear hv hu hg hop hA hA2 h3 k3 g5 g6 hN hW hst
  go_enter Tryd.func70, Tryd.ntmps70
  go_wp2_with fail
  go_loopg [5, 19] (m + 1) (fun gn a b wr => ∃ t : Nat, t ≤ m ∧ m - t < gn ∧ b = .int .i64 t ∧ Hid (∃ β cp, ShAll wr w.heap.size a N t st β cp) ∧ Hid (Below w.heap.size w wr))
  case atStart => exact ⟨0, by omega, by omega, rfl, ⟨fun _ => 0, fun _ => 0, ⟨World.ownsRow_nil _ _ _ _, fun j hj => absurd hj (Nat.not_lt_zero _)⟩⟩, Below.refl _ _⟩
  case round =>
    obtain ⟨t, ht, hgt, rfl, HS, HB⟩ := hrel
    have hz := HB.out.size
    by_cases htm : t < m
    · obtain ⟨β, cp, S⟩ := HS.out
      have c0 : wr.cell? ⟨blk2, off2 + t * 2, none⟩ = some (.int .i64 (p t)) := (HB.out.cell (p := ⟨blk2, off2 + t * 2, none⟩) l2).trans (HC2.out t htm).1
      have c1 : wr.cell? ⟨blk2, off2 + t * 2 + 1, none⟩ = some (.int .i64 (q t)) := (HB.out.cell (p := ⟨blk2, off2 + t * 2 + 1, none⟩) l2).trans (HC2.out t htm).2
      have l3 : blk2 < wr.heap.size := by omega
      have HS1 := hide S
      clear S HS
      go_wp2_with fail
      refine (stepsFrom_any F n (p t) (q t) lo hi _ _ (HV.out.below (B := w.heap.size) (HB.out.alloc hz _) hhi) (by simp; omega) HG.out (HOP.out t htm)).mono ?_
      rintro e w2 ⟨g, rfl, ho, hg1, hg2, hb2⟩
      have hbr : Below wr.heap.size wr w2 := ((Below.refl wr.heap.size wr).alloc (Nat.le_refl _) _).trans (hb2.mono (by simp))
      have S2 := hide (HS1.out.below hbr)
      have HB2 : Hid (Below w.heap.size w w2) := HB.out.trans (hbr.mono hz)
      have ho' : OwnL w2 g (g + 1) 3 1 (.slice (some ⟨g, 0, none⟩) N N) N N (fun i => .int .i64 (st t i)) := by
        rw [HST.out, HN.out]
        exact ho
      have HO := hide ho'
      rw [← HN.out]
      clear c0 c1 hbr hb2 ho ho' HS1
      have hz2 := HB2.out.size
      go_wp2_with (at_builtin; refine wpList_append_own _ rfl _ _ 82 rfl w.heap.size 48 ii (.slice none 0 0) 1 24 Tryd.underlying82 hii iz0 iz1 iz2 rfl (by decide) _ _ _ rfl (S2.out.row.alloc _) ⟨w2.heap.size, 0, none⟩ 1 1 [.slice (some ⟨g, 0, none⟩) N N] rfl rfl ?_ ?_ ?_ ?_ ?_ ?_)
      · intro i u hu
        match i, hu with
        | 0, hu => simp at hu; subst hu; simp [go_sem, Addr.add]
      · intro u hu; simp at hu; subst hu; rfl
      · unfold maxLen; omega
      · omega
      · simp; omega
      intro v' w3 hown3 hg3 _
      have HB3 : Hid (Below w.heap.size w w3) := (HB2.out.alloc (by omega) _).grown hg3 (by simp; omega) (fun g hg => (S2.out.row.lt g hg).1)
      have HS3 : Hid (∃ β cp, ShAll w3 w.heap.size v' N (t + 1) st β cp) := S2.out.snoc (by omega) HO.out hg2 _ hown3 hg3
      clear hown3 hg3
      go_wp2_with fail
      go_roundg (m - t)
      case measure => omega
      case rel => exact ⟨t + 1, by omega, by omega, by go_num, HS3.out, HB3.out⟩
    · obtain rfl : t = m := by omega
      obtain ⟨β, cp, S⟩ := HS.out
      obtain ⟨G, capG, rfl, hGl, hGc⟩ := S.form (by omega)
      have HS1 := hide S
      clear S HS
      obtain ⟨wr0, ewr0⟩ : ∃ z : World, z = wr := ⟨_, rfl⟩
      subst ewr0
      go_wp2_with fail
      go_loopg [8, 32] (n + 1) (fun gn a b wq => ∃ x : Nat, x ≤ n ∧ n - x < gn ∧ b = .int .i64 x ∧ Hid (wq.ownsRow wr0.heap.size 9 1 a x (shRows F st t x)) ∧ Hid (Below wr0.heap.size wr0 wq))
      case atStart => exact ⟨0, by omega, by omega, rfl, World.ownsRow_nil _ _ _ _, Below.refl _ _⟩
      case round =>
        obtain ⟨x, hx, hgx, rfl, HR, HQ⟩ := hrel
        have hzq := HQ.out.size
        have HBq : Hid (Below w.heap.size w wr) := HB.out.trans (HQ.out.mono hz)
        by_cases hxn : x < n
        · have c0 : wr.cell? ⟨blk, off + x, none⟩ = some (.string (F x)) := (HBq.out.cell (p := ⟨blk, off + x, none⟩) l0).trans (HC.out x hxn)
          have l3 : blk < wr.heap.size := by omega
          obtain ⟨wq, ewq⟩ : ∃ z : World, z = wr := ⟨_, rfl⟩
          subst ewq
          have hcv := run_bytes_of_string wq 9 43 5 (F x) Tryd.underlying9 Tryd.underlying43 Tryd.underlying5
          obtain ⟨C, hC⟩ : ∃ C, C = grownCap wq (F x).size 0 5 := ⟨_, rfl⟩
          rw [← hC] at hcv
          obtain ⟨W1, hW1⟩ : ∃ W1, W1 = wq.drew.alloc (.cells (bytesRow (F x) C) 5 ((bytesRow (F x) C).size, (bytesRow (F x) C).size + 1)) := ⟨_, rfl⟩
          have HL1 : Hid (Line W1 wq.heap.size W (shC F st t x 0)) := by
            have h := Line.new wq.drew (F x) C 5
            rw [← hW1, HFS.out x hxn] at h
            exact h.congr fun j _ => by simp [shC]
          have HQ1 : Hid (Below wq.heap.size wq W1) := by show Below _ _ _; rw [hW1]; exact (Below.drew (Below.refl _ _)).alloc (Nat.le_refl _) _
          rw [← hW1, HFS.out x hxn] at hcv
          clear hC hW1
          go_wp2_with fail
          clear c0 hcv
          go_loopg [41] (W + 1) (fun gn b wc => ∃ y : Nat, y ≤ W ∧ W - y < gn ∧ b = .int .i64 y ∧ Hid (Line wc wq.heap.size W (shC F st t x y)) ∧ Hid (Below wq.heap.size wq wc))
          case atStart => exact ⟨0, by omega, by omega, rfl, HL1.out, HQ1.out⟩
          case round =>
            obtain ⟨y, hy, hgy, rfl, HL, HQ2⟩ := hrel
            have hz2 := HQ2.out.size
            have HBc : Hid (Below wr0.heap.size wr0 wr) := HQ.out.trans (HQ2.out.mono hzq)
            have llb := HL.out.1
            by_cases hyW : y < W
            · obtain ⟨wc, ewc⟩ : ∃ z : World, z = wr := ⟨_, rfl⟩
              subst ewc
              have S2 := hide (HS1.out.below HBc.out)
              have hxW : x * W + y < N := by
                have h1 : (x + 1) * W ≤ n * W := Nat.mul_le_mul_right _ (by omega)
                have h2 : (x + 1) * W = x * W + W := Nat.succ_mul _ _
                have h3 := HN.out
                have h4 := HW.out
                rw [h4] at h1 h2 ⊢
                omega
              obtain ⟨i, hi⟩ : ∃ i, i = x * W + y := ⟨_, rfl⟩
              rw [← hi] at hxW
              have z1 : IntKind.i64.wrap ((x : Int) * (W : Int)) = (x : Int) * (W : Int) := IntWalk.i64_in _ (by
                have e : (x : Int) * (W : Int) = ((x * W : Nat) : Int) := by push_cast; rfl
                rw [e]; omega)
              have z2 : IntKind.i64.wrap ((x : Int) * (W : Int) + (y : Int)) = (i : Int) := by
                have e : (x : Int) * (W : Int) + (y : Int) = (i : Int) := by rw [hi]; push_cast; rfl
                rw [e]; exact IntWalk.i64_in _ (by omega)
              have HIW : Hid (i = x * W + y) := hi
              have HBND : Hid (∀ j, j ≤ t → -1 ≤ shJ st i j ∧ shJ st i j < j) := fun j _ => shJ_bd st i j
              have hGl2 : G < wc.heap.size := by have := HBc.out.size; omega
              clear hi
              go_wp2_with fail
              go_loopg [13, 46] (t + 1) (fun gn bv jv wz => ∃ j : Nat, j ≤ t ∧ t - j < gn ∧ jv = .int .i64 j ∧ bv = .int .i64 (shJ st i j) ∧ wz = wc)
              case atStart => exact ⟨0, by omega, by omega, rfl, rfl, rfl⟩
              case round =>
                obtain ⟨j, hj, hgj, rfl, rfl, rfl⟩ := hrel
                obtain ⟨jb1, jb2⟩ := HBND.out j hj
                by_cases hjt : j < t
                · have a0 := S2.out.at_ hjt
                  have a1 := S2.out.cell hjt hxW
                  have a2 := (S2.out.num j hjt).2
                  have HN0 : Hid (shJ st i (j + 1) = if 0 ≤ st j i ∧ (shJ st i j < 0 ∨ st j i < st (shJ st i j).toNat i) then (j : Int) else shJ st i j) := rfl
                  obtain ⟨s1, hs1⟩ : ∃ z, z = st j i := ⟨_, rfl⟩
                  rw [← hs1] at a1 HN0
                  obtain ⟨J, hJ⟩ : ∃ z, z = shJ st i j := ⟨_, rfl⟩
                  rw [← hJ] at jb1 jb2 HN0
                  rw [← hJ]
                  clear hJ hs1
                  by_cases hs0 : 0 ≤ s1
                  · have d0 : decide (s1 ≥ 0) = true := decide_eq_true hs0
                    have d0' : decide (0 ≤ s1) = true := decide_eq_true hs0
                    by_cases hJ0 : J < 0
                    · have d1 : decide (J < 0) = true := decide_eq_true hJ0
                      have HN1 : Hid (shJ st i (j + 1) = (j : Int)) := by show _ = _; rw [HN0.out, if_pos ⟨hs0, .inl hJ0⟩]
                      go_wp2_with fail
                      go_roundg (t - j)
                      case measure => omega
                      case rel => exact ⟨j + 1, by omega, by omega, by go_num, by rw [HN1.out], rfl⟩
                    · have d1 : decide (J < 0) = false := decide_eq_false hJ0
                      obtain ⟨K, rfl⟩ : ∃ K : Nat, J = K := ⟨J.toNat, by omega⟩
                      have hKt : K < t := by omega
                      have b0 := S2.out.at_ hKt
                      have b1 := S2.out.cell hKt hxW
                      have b2 := (S2.out.num K hKt).2
                      have HN2 : Hid (shJ st i (j + 1) = if s1 < st K i then (j : Int) else (K : Int)) := by
                        show _ = _
                        rw [HN0.out]
                        by_cases h : s1 < st K i
                        · rw [if_pos ⟨hs0, .inr (by simpa using h)⟩, if_pos h]
                        · rw [if_neg (by rintro ⟨_, h1 | h1⟩; · exact hJ0 h1
                                         · exact h (by simpa using h1)), if_neg h]
                      obtain ⟨s2, hs2⟩ : ∃ z, z = st K i := ⟨_, rfl⟩
                      rw [← hs2] at b1 HN2
                      clear hs2
                      by_cases hlt : s1 < s2
                      · have d2 : decide (s1 < s2) = true := decide_eq_true hlt
                        have HN1 : Hid (shJ st i (j + 1) = (j : Int)) := by show _ = _; rw [HN2.out, if_pos hlt]
                        go_wp2_with fail
                        go_roundg (t - j)
                        case measure => omega
                        case rel => exact ⟨j + 1, by omega, by omega, by go_num, by rw [HN1.out], rfl⟩
                      · have d2 : decide (s1 < s2) = false := decide_eq_false hlt
                        have HN1 : Hid (shJ st i (j + 1) = (K : Int)) := by show _ = _; rw [HN2.out, if_neg hlt]
                        go_wp2_with fail
                        go_roundg (t - j)
                        case measure => omega
                        case rel => exact ⟨j + 1, by omega, by omega, by go_num, by rw [HN1.out], rfl⟩
                  · have d0 : decide (s1 ≥ 0) = false := decide_eq_false hs0
                    have d0' : decide (0 ≤ s1) = false := decide_eq_false hs0
                    have HN1 : Hid (shJ st i (j + 1) = J) := by show _ = _; rw [HN0.out, if_neg (fun h => hs0 h.1)]
                    go_wp2_with fail
                    go_roundg (t - j)
                    case measure => omega
                    case rel => exact ⟨j + 1, by omega, by omega, by go_num, by rw [HN1.out], rfl⟩
                · obtain rfl : j = t := by omega
                  have HSB : Hid (shB F st j x y = if shJ st i j < 0 then byteAt (F x) y else 97 + shJ st i j) := by show _ = _; rw [shB, ← HW.out, ← HIW.out]
                  obtain ⟨J, hJ⟩ : ∃ z, z = shJ st i j := ⟨_, rfl⟩
                  rw [← hJ] at jb1 jb2 HSB
                  rw [← hJ]
                  clear hJ
                  by_cases hJ0 : J < 0
                  · have d0 : decide (J ≥ 0) = false := decide_eq_false (by omega)
                    have d0' : decide (0 ≤ J) = false := decide_eq_false (by omega)
                    have HL2 : Hid (Line wr wq.heap.size W (shC F st j x (y + 1))) := HL.out.congr fun k hk => by
                      rw [shC_step]
                      by_cases e : k = y
                      · subst e
                        rw [if_pos rfl, HSB.out, if_pos hJ0]
                        simp [shC]
                      · rw [if_neg e]
                    go_wp2_with fail
                    go_roundg (W - y)
                    case measure => omega
                    case rel => exact ⟨y + 1, by omega, by omega, by go_num, HL2.out, HQ2.out⟩
                  · have d0 : decide (J ≥ 0) = true := decide_eq_true (by omega)
                    have d0' : decide (0 ≤ J) = true := decide_eq_true (by omega)
                    have y1 : IntKind.i64.wrap (97 + J) = 97 + J := IntWalk.i64_in _ (by omega)
                    have y2 : IntKind.u8.wrap (97 + J) = 97 + J := by rw [IntKind.wrap_u8]; omega
                    obtain ⟨e0, e1⟩ := HL.out.2 y hyW
                    have HL2 : Hid (Line (wr.setCell ⟨wq.heap.size, y, none⟩ (.int .u8 (97 + J))) wq.heap.size W (shC F st j x (y + 1))) := (HL.out.set hyW (97 + J)).congr fun k hk => by
                      rw [shC_step]
                      by_cases e : k = y
                      · rw [if_pos e, if_pos e, HSB.out, if_neg hJ0]
                      · rw [if_neg e, if_neg e]
                    have HQ3 : Hid (Below wq.heap.size wq (wr.setCell ⟨wq.heap.size, y, none⟩ (.int .u8 (97 + J)))) := HQ2.out.setCell (Nat.le_refl _) _
                    go_wp2_with fail
                    go_roundg (W - y)
                    case measure => omega
                    case rel => exact ⟨y + 1, by omega, by omega, by go_num, HL2.out, HQ3.out⟩
            · obtain rfl : y = W := by omega
              have hcv2 : (convert 43 9 (.slice (some ⟨wq.heap.size, 0, none⟩) y C)).run Tryd.prog wr = .ok (.string (shR F st t x)) wr := by
                have h := run_convert_bytes_arg (P := Tryd.prog) wr 43 5 Tryd.underlying43 Tryd.underlying5 wq.heap.size 0 y C (shL F st t x y) (shL_len _ _ _ _ _) (fun k hk => by
                  rw [Nat.zero_add, (HL.out.2 k hk).1]
                  simp [shC, shL, hk]) 9 Tryd.underlying9
                rw [h, shR, ← HW.out]
              have HR2 := hide (row_below HR.out HQ2.out (Nat.le_refl _))
              have hzq2 := HBc.out.size
              go_wp2_with (at_builtin; refine wpList_append_own _ rfl _ _ 22 rfl wr0.heap.size 9 is (.string ⟨#[]⟩) 1 16 Tryd.underlying22 his js0 js1 js2 rfl (by decide) _ _ _ rfl (HR2.out.alloc _) ⟨wr.heap.size, 0, none⟩ 1 1 [.string (shR F st t x)] rfl rfl ?_ ?_ ?_ ?_ ?_ ?_)
              · intro i u hu
                match i, hu with
                | 0, hu => simp at hu; subst hu; simp [go_sem, Addr.add]
              · intro u hu; simp at hu; subst hu; rfl
              · unfold maxLen; omega
              · omega
              · simp; omega
              intro v' w5 hown5 hg5 _
              have HB5 : Hid (Below wr0.heap.size wr0 w5) := (HBc.out.alloc hzq2 _).grown hg5 (by simp; omega) (fun g hg => (HR2.out.lt g hg).1)
              have HR5 : Hid (w5.ownsRow wr0.heap.size 9 1 v' (x + 1) (shRows F st t (x + 1))) := by
                show World.ownsRow _ _ _ _ _ _ _
                rw [shRows_next]
                exact hown5
              clear hown5 hg5
              go_wp2_with fail
              go_roundg (n - x)
              case measure => omega
              case rel => exact ⟨x + 1, by omega, by omega, by go_num, HR5.out, HB5.out⟩
        · obtain rfl : x = n := by omega
          go_wp2_with fail
          go_ret
          exact ⟨_, rfl, HR.out.mono hz, HBq.out⟩

end Go.Proofs.YtpckhpkbdanjoaaDoor

/-
  Walks: ShareOut: the reference's.-/
namespace Go.Proofs.YtpckhpkbdanjoaaDoor
set_option linter.unusedVariables false
set_option linter.unusedSimpArgs false
open Go.RowKit

def shOk (F : Nat → ByteArray) (n : Nat) (p q : Nat → Int) (m : Nat) : Bool := flB F n && inB m 1 8 && allB (fun i => opB F n (p i) (q i) && !hasC p q (p i) (q i) i) m
def shN (F : Nat → ByteArray) (n : Nat) (p q : Nat → Int) (m : Nat) : Nat := if shOk F n p q m = true then n else 0
def shT (F : Nat → ByteArray) (n : Nat) (p q : Nat → Int) (m : Nat) : Nat → ByteArray := shR F (shS F n p q) m
theorem sh_facts {F : Nat → ByteArray} {n m : Nat} {p q : Nat → Int} (h : shOk F n p q m = true) : flB F n = true ∧ (1 ≤ m ∧ m ≤ 8) ∧ ∀ i, i < m → opB F n (p i) (q i) = true ∧ hasC p q (p i) (q i) i = false := by
  simp only [shOk, Bool.and_eq_true, inB_iff, allB_iff, Bool.not_eq_true'] at h
  exact ⟨h.1.1, by omega, h.2⟩
theorem shN_le {F : Nat → ByteArray} {n m : Nat} {p q : Nat → Int} : shN F n p q m ≤ 1048576 := by
  unfold shN
  split
  · rename_i h
    have := flB_facts (sh_facts h).1
    omega
  · omega
theorem shRows_row (F : Nat → ByteArray) (st : Nat → Nat → Int) (m : Nat) : ∀ x, shRows F st m x = rowL (sC (shR F st m)) 1 x
  | 0 => rfl
  | x + 1 => by rw [shRows_next, shRows_row F st m x, rowL]; rfl
/-- What the call hands back. -/
def ShRes (F : Nat → ByteArray) (n : Nat) (p q : Nat → Int) (m : Nat) (w : World) (e : Ending) (w' : World) : Prop := ∃ v', e = .returned (.tuple #[v', .bool (shOk F n p q m)]) ∧ Own w' w.heap.size w'.heap.size 9 1 v' (shN F n p q m) (shN F n p q m) (sC (shT F n p q m)) ∧ Below w.heap.size w w'
theorem sh_nil {F : Nat → ByteArray} {n m : Nat} {p q : Nat → Int} {w w' : World} (h : shOk F n p q m = false) (hb : Below w.heap.size w w') : ShRes F n p q m w (.returned (.tuple #[.slice none 0 0, .bool false])) w' :=
  ⟨_, by rw [h], by rw [shN, h]; exact Own.nil_ _ _ _ _ _ _, hb⟩
theorem sh_row {F : Nat → ByteArray} {n m : Nat} {p q : Nat → Int} {w w' : World} {v' : Value} {lo : Nat} (h : shOk F n p q m = true) (ho : w'.ownsRow lo 9 1 v' n (shRows F (shS F n p q) m n)) (hl : w.heap.size ≤ lo) (hb : Below w.heap.size w w') :
    ShRes F n p q m w (.returned (.tuple #[v', .bool true])) w' := by
  have hN : shN F n p q m = n := by rw [shN, if_pos h]
  rw [shRows_row] at ho
  refine ⟨_, by rw [h], ?_, hb⟩
  rw [hN]
  exact (own_row ho).mono hl (Nat.le_refl _)
theorem sh_bad {F : Nat → ByteArray} {n m i : Nat} {p q : Nat → Int} (hi : i < m) (h : (opB F n (p i) (q i) && !hasC p q (p i) (q i) i) = false) : shOk F n p q m = false := by
  rw [shOk, allB_false hi h]; simp
theorem nums_one (x : Int) : (strOfNums [x]).size = 1 := by rw [strOfNums_size]; rfl
theorem infoIntT : (Tryd.prog.info? 48).map (fun i => (i.zero, i.size, i.bytes)) = some (some (.slice none 0 0), 1, 24) := by kernel_rfl
theorem infoStrT : (Tryd.prog.info? 9).map (fun i => (i.zero, i.size, i.bytes)) = some (some (.string ⟨#[]⟩), 1, 16) := by kernel_rfl
set_option maxRecDepth 100000 in
set_option maxHeartbeats 6400000 in
theorem ShareOut_specR (F : Nat → ByteArray) (n : Nat) (p q : Nat → Int) (m lo hi : Nat) (v : Value) (lo2 hi2 : Nat) (u : Value) (w : World) (hv : Sl w lo hi 1 v n (sC F)) (hhi : hi ≤ w.heap.size) (hu : Sl w lo2 hi2 2 u m (iiC p q)) (hhi2 : hi2 ≤ w.heap.size) (hf : ffits F n) :
    Calls Tryd.prog 23 #[v, u] w (ShRes F n p q m w) := by
  obtain ⟨A, cap, rfl, hcap, hA⟩ := id hv.open_
  obtain ⟨A2, cap2, rfl, hcap2, hA2⟩ := id hu.open_
  have HV := hide hv
  clear hv hu
  cases e1 : flB F n with
  | false =>
    have HX : Hid (shOk F n p q m = false) := by show _ = _; rw [shOk, e1]; rfl
    clear hA hA2
    go_enter Tryd.func23, Tryd.ntmps23
    go_wp2_with fail
    refine (seGood_any F n lo hi _ _ (HV.out.below (B := w.heap.size) (by repeat (first | (with_reducible exact Below.refl _ _) | (with_reducible refine below_ov ?_ ?_) | (with_reducible refine Below.setCell ?_ ?_ _) | (with_reducible refine Below.alloc ?_ ?_ _) | (with_reducible refine Below.drew ?_) | (with_reducible refine below_drewN ?_ _) | (refine Below.trans ?_ (Below.mono ‹Below _ _ _› (by first | omega | (simp; done) | (simp; omega)))) | exact Below.refl _ _ | omega | (focus (simp; done)) | (focus (simp; omega)))) hhi) (by first | omega | (simp; done) | (simp; omega)) hf).mono ?_
    rintro e w1 ⟨rfl, hb1⟩
    have hz1 := hb1.size
    rw [e1]
    go_wp2_with fail
    go_ret2
    exact sh_nil HX.out (by repeat (first | (with_reducible exact Below.refl _ _) | (with_reducible refine below_ov ?_ ?_) | (with_reducible refine Below.setCell ?_ ?_ _) | (with_reducible refine Below.alloc ?_ ?_ _) | (with_reducible refine Below.drew ?_) | (with_reducible refine below_drewN ?_ _) | (refine Below.trans ?_ (Below.mono ‹Below _ _ _› (by first | omega | (simp; done) | (simp; omega)))) | exact Below.refl _ _ | omega | (focus (simp; done)) | (focus (simp; omega))))
  | true =>
  have HG := hide e1
  cases e2 : inB m 1 8 with
  | false =>
    have HX : Hid (shOk F n p q m = false) := by show _ = _; rw [shOk, e2]; simp
    clear hA hA2
    go_enter Tryd.func23, Tryd.ntmps23
    go_wp2_with fail
    refine (seGood_any F n lo hi _ _ (HV.out.below (B := w.heap.size) (by repeat (first | (with_reducible exact Below.refl _ _) | (with_reducible refine below_ov ?_ ?_) | (with_reducible refine Below.setCell ?_ ?_ _) | (with_reducible refine Below.alloc ?_ ?_ _) | (with_reducible refine Below.drew ?_) | (with_reducible refine below_drewN ?_ _) | (refine Below.trans ?_ (Below.mono ‹Below _ _ _› (by first | omega | (simp; done) | (simp; omega)))) | exact Below.refl _ _ | omega | (focus (simp; done)) | (focus (simp; omega)))) hhi) (by first | omega | (simp; done) | (simp; omega)) hf).mono ?_
    rintro e w1 ⟨rfl, hb1⟩
    have hz1 := hb1.size
    rw [e1]
    go_wp2_with (go_at_call 66; refine (l1In_any _ _ _ _).mono ?_; rintro e w' ⟨rfl, rfl⟩)
    go_ret2
    exact sh_nil HX.out (by repeat (first | (with_reducible exact Below.refl _ _) | (with_reducible refine below_ov ?_ ?_) | (with_reducible refine Below.setCell ?_ ?_ _) | (with_reducible refine Below.alloc ?_ ?_ _) | (with_reducible refine Below.drew ?_) | (with_reducible refine below_drewN ?_ _) | (refine Below.trans ?_ (Below.mono ‹Below _ _ _› (by first | omega | (simp; done) | (simp; omega)))) | exact Below.refl _ _ | omega | (focus (simp; done)) | (focus (simp; omega))))
  | true =>
  have hm18 := inB_iff.1 e2
  obtain ⟨g1, g2, g3, g4, g5, g6⟩ := flB_facts e1
  obtain ⟨blk, off, rfl, h1, h2, h3⟩ := hA (by omega)
  obtain ⟨blk2, off2, rfl, k1, k2, k3⟩ := hA2 (by omega)
  have HC : Hid (∀ x, x < n → w.cell? ⟨blk, off + x, none⟩ = some (.string (F x))) := fun x hx => by
    have := h3 x 0 hx (by omega)
    simpa [sC] using this
  have HC2 : Hid (∀ t, t < m → w.cell? ⟨blk2, off2 + t * 2, none⟩ = some (.int .i64 (p t)) ∧ w.cell? ⟨blk2, off2 + t * 2 + 1, none⟩ = some (.int .i64 (q t))) := fun t ht =>
    ⟨by simpa [iiC] using k3 t 0 ht (by omega), by simpa [iiC] using k3 t 1 ht (by omega)⟩
  have l0 : blk < w.heap.size := by omega
  have l2 : blk2 < w.heap.size := by omega
  have har := fl_area e1
  obtain ⟨N, hN⟩ : ∃ N, N = n * (F 0).size := ⟨_, rfl⟩
  obtain ⟨W, hW⟩ : ∃ W, W = (F 0).size := ⟨_, rfl⟩
  obtain ⟨st, hst⟩ : ∃ st, st = shS F n p q := ⟨_, rfl⟩
  have HST := hide hst
  have HFS : Hid (∀ x, x < n → (F x).size = W) := fun x hx => by rw [g5 x hx, hW]
  have HN := hide hN
  have HW := hide hW
  rw [← hN] at har
  rw [← hW] at g3 g4
  have HE2 := hide e2
  obtain ⟨ii, hii, iz0, iz1, iz2⟩ := info_parts infoIntT
  obtain ⟨is, his, js0, js1, js2⟩ := info_parts infoStrT
  clear hA hA2 h3 k3 g5 g6 hN hW hst
  go_enter Tryd.func23, Tryd.ntmps23
  go_wp2_with fail
  refine (seGood_any F n lo hi _ _ (HV.out.below (B := w.heap.size) (by repeat (first | (with_reducible exact Below.refl _ _) | (with_reducible refine below_ov ?_ ?_) | (with_reducible refine Below.setCell ?_ ?_ _) | (with_reducible refine Below.alloc ?_ ?_ _) | (with_reducible refine Below.drew ?_) | (with_reducible refine below_drewN ?_ _) | (refine Below.trans ?_ (Below.mono ‹Below _ _ _› (by first | omega | (simp; done) | (simp; omega)))) | exact Below.refl _ _ | omega | (focus (simp; done)) | (focus (simp; omega)))) hhi) (by first | omega | (simp; done) | (simp; omega)) hf).mono ?_
  rintro e w1 ⟨rfl, hb1⟩
  rw [e1]
  have HB1 := hide hb1
  clear hb1 e1
  go_wp2_with (go_at_call 66; refine (l1In_any _ _ _ _).mono ?_; rintro e w' ⟨rfl, rfl⟩)
  clear e2
  go_loopg [6, 31] (m + 1) (fun gn a b wr => ∃ t : Nat, t ≤ m ∧ m - t < gn ∧ b = .int .i64 t ∧ Hid (∃ β cp, ShAll wr w.heap.size a N t st β cp) ∧ Hid (Below w.heap.size w wr) ∧ Hid (∀ j, j < t → (opB F n (p j) (q j) && !hasC p q (p j) (q j) j) = true))
  case atStart => exact ⟨0, by omega, by omega, rfl, ⟨fun _ => 0, fun _ => 0, ⟨World.ownsRow_nil _ _ _ _, fun j hj => absurd hj (Nat.not_lt_zero _)⟩⟩, HB1.out, fun j hj => absurd hj (Nat.not_lt_zero _)⟩
  case round =>
    obtain ⟨t, ht, hgt, rfl, HS, HB, HJ⟩ := hrel
    have hz := HB.out.size
    by_cases htm : t < m
    · obtain ⟨β, cp, S⟩ := HS.out
      have c0 : wr.cell? ⟨blk2, off2 + t * 2, none⟩ = some (.int .i64 (p t)) := (HB.out.cell (p := ⟨blk2, off2 + t * 2, none⟩) l2).trans (HC2.out t htm).1
      have c1 : wr.cell? ⟨blk2, off2 + t * 2 + 1, none⟩ = some (.int .i64 (q t)) := (HB.out.cell (p := ⟨blk2, off2 + t * 2 + 1, none⟩) l2).trans (HC2.out t htm).2
      have l3 : blk2 < wr.heap.size := by omega
      have HS1 := hide S
      clear S HS
      go_wp2_with fail
      obtain ⟨ab, hab⟩ : ∃ ab, ab = wr.heap.size := ⟨_, rfl⟩
      obtain ⟨Wa, hWa⟩ : ∃ Wa, Wa = wr.alloc (.cells #[.int .i64 (p t), .int .i64 (q t)] 38) := ⟨_, rfl⟩
      have XA : Hid (Bx2 Wa ab (p t) (q t)) := by show Bx2 _ _ _ _; rw [hWa, hab]; exact Bx2.new _ _ _
      have ba : Below wr.heap.size wr Wa := by rw [hWa]; exact (Below.refl _ _).alloc (Nat.le_refl _) _
      have HBA : Hid (Below w.heap.size w Wa) := HB.out.trans (ba.mono hz)
      have SA := hide (HS1.out.below ba)
      rw [← hWa, ← hab]
      clear hWa hab ba HS1 c0 c1
      refine (seOpen_any F n (p t) (q t) lo hi _ _ (HV.out.below (B := w.heap.size) HBA.out hhi) (by have := HBA.out.size; omega) HG.out).mono ?_
      rintro e w2 ⟨rfl, hb2⟩
      have X2 := hide (XA.out.below hb2 XA.out.lt)
      have S2 := hide (SA.out.below hb2)
      have HB2 : Hid (Below w.heap.size w w2) := HBA.out.trans (hb2.mono HBA.out.size)
      clear XA SA hb2 HBA
      cases eo : opB F n (p t) (q t) with
      | false =>
        have HX : Hid (shOk F n p q m = false) := sh_bad htm (by rw [eo]; rfl)
        go_wp2_with fail
        go_ret2
        exact sh_nil HX.out HB2.out
      | true =>
      have HEO := hide eo
      have ht2 : t ≤ cap2 := by omega
      clear eo
      go_wp2_with fail
      go_loopg [44] (t + 1) (fun gn b wi => ∃ k : Nat, k ≤ t ∧ t - k < gn ∧ b = .int .i64 k ∧ Hid (∀ j, j < k → (decide (p j = p t) && decide (q j = q t)) = false) ∧ Hid (Below w2.heap.size w2 wi))
      case atStart => exact ⟨0, by omega, by omega, rfl, fun j hj => absurd hj (Nat.not_lt_zero _), Below.refl _ _⟩
      case round =>
        obtain ⟨k, hk, hgk, rfl, HK, HI⟩ := hrel
        have HBi : Hid (Below w.heap.size w wr) := HB2.out.trans (HI.out.mono HB2.out.size)
        have hzi := HBi.out.size
        have Xi := hide (X2.out.below HI.out X2.out.lt)
        by_cases hkt : k < t
        · have c0 : wr.cell? ⟨blk2, off2 + k * 2, none⟩ = some (.int .i64 (p k)) := (HBi.out.cell (p := ⟨blk2, off2 + k * 2, none⟩) l2).trans (HC2.out k (by omega)).1
          have c1 : wr.cell? ⟨blk2, off2 + k * 2 + 1, none⟩ = some (.int .i64 (q k)) := (HBi.out.cell (p := ⟨blk2, off2 + k * 2 + 1, none⟩) l2).trans (HC2.out k (by omega)).2
          have l4 : blk2 < wr.heap.size := by omega
          obtain ⟨x0, x1, xf, xl⟩ := Xi.out
          have hb3 : Below wr.heap.size wr (wr.alloc (.cells #[.int .i64 (p k), .int .i64 (q k)] 38)) := (Below.refl _ _).alloc (Nat.le_refl _) _
          have HI3 : Hid (Below w2.heap.size w2 (wr.alloc (.cells #[.int .i64 (p k), .int .i64 (q k)] 38))) := HI.out.trans (hb3.mono HI.out.size)
          have HB3 : Hid (Below w.heap.size w (wr.alloc (.cells #[.int .i64 (p k), .int .i64 (q k)] 38))) := HB2.out.trans (HI3.out.mono HB2.out.size)
          clear hb3
          by_cases f1 : p k = p t
          · by_cases f2 : q k = q t
            · have HX : Hid (shOk F n p q m = false) := sh_bad htm (by
                have h : hasC p q (p t) (q t) t = true := by rw [hasC, some_iff]; exact ⟨k, hkt, by simp [f1, f2]⟩
                rw [h]; simp)
              go_wp2_with fail
              go_ret2
              exact sh_nil HX.out (by rw [← f1, ← f2]; exact HB3.out)
            · have HN2 : Hid (∀ j, j < k + 1 → (decide (p j = p t) && decide (q j = q t)) = false) := upto_snocF (p := fun j => decide (p j = p t) && decide (q j = q t)) HK.out (by simp [f2])
              go_wp2_with fail
              go_roundg (t - k)
              case measure => omega
              case rel => exact ⟨k + 1, by omega, by omega, by go_num, HN2.out, (by show Below _ _ _; rw [← f1]; exact HI3.out)⟩
          · have HN2 : Hid (∀ j, j < k + 1 → (decide (p j = p t) && decide (q j = q t)) = false) := upto_snocF (p := fun j => decide (p j = p t) && decide (q j = q t)) HK.out (by simp [f1])
            go_wp2_with fail
            go_roundg (t - k)
            case measure => omega
            case rel => exact ⟨k + 1, by omega, by omega, by go_num, HN2.out, HI3.out⟩
        · obtain rfl : k = t := by omega
          have HJ2 : Hid (∀ j, j < k + 1 → (opB F n (p j) (q j) && !hasC p q (p j) (q j) j) = true) := upto_snoc (p := fun j => opB F n (p j) (q j) && !hasC p q (p j) (q j) j) HJ.out (by
            have h : hasC p q (p k) (q k) k = false := by rw [hasC, fstI_none HK.out]; rfl
            simp only [HEO.out, h]; rfl)
          have S3 := hide (S2.out.below HI.out)
          obtain ⟨x0, x1, xf, xl⟩ := Xi.out
          go_wp2_with fail
          refine (seSteps_any F n (p k) (q k) lo hi _ _ (HV.out.below (B := w.heap.size) HBi.out hhi) (by omega) HG.out HEO.out).mono ?_
          rintro e w4 ⟨g, co, rfl, ho, hg1, hg2, hb4⟩
          have S4 := hide (S3.out.below hb4)
          have HB4 : Hid (Below w.heap.size w w4) := HBi.out.trans (hb4.mono hzi)
          have ho' : OwnL w4 g (g + 1) 3 1 (.slice (some ⟨g, 0, none⟩) N co) N N (fun i => .int .i64 (st k i)) := by
            rw [HST.out, HN.out]
            exact ho
          have HO := hide ho'
          rw [← HN.out]
          clear x0 x1 xf xl hb4 ho ho' S3
          have hz4 := HB4.out.size
          go_wp2_with (at_builtin; refine wpList_append_own _ rfl _ _ 82 rfl w.heap.size 48 ii (.slice none 0 0) 1 24 Tryd.underlying82 hii iz0 iz1 iz2 rfl (by decide) _ _ _ rfl (S4.out.row.alloc _) ⟨w4.heap.size, 0, none⟩ 1 1 [.slice (some ⟨g, 0, none⟩) N co] rfl rfl ?_ ?_ ?_ ?_ ?_ ?_)
          · intro i u hu
            match i, hu with
            | 0, hu => simp at hu; subst hu; simp [go_sem, Addr.add]
          · intro u hu; simp at hu; subst hu; rfl
          · unfold maxLen; omega
          · omega
          · simp; omega
          intro v' w5 hown5 hg5 _
          have HB5 : Hid (Below w.heap.size w w5) := (HB4.out.alloc (by omega) _).grown hg5 (by simp; omega) (fun g hg => (S4.out.row.lt g hg).1)
          have HS5 : Hid (∃ β cp, ShAll w5 w.heap.size v' N (k + 1) st β cp) := S4.out.snoc (by omega) HO.out hg2 _ hown5 hg5
          clear hown5 hg5
          go_wp2_with fail
          go_roundg (m - k)
          case measure => omega
          case rel => exact ⟨k + 1, by omega, by omega, by go_num, HS5.out, HB5.out, HJ2.out⟩
    · obtain rfl : t = m := by omega
      have HX : Hid (shOk F n p q t = true) := by show _ = _; rw [shOk, HG.out, HE2.out, allB_iff.2 HJ.out]; rfl
      obtain ⟨β, cp, S⟩ := HS.out
      obtain ⟨G, capG, rfl, hGl, hGc⟩ := S.form (by omega)
      have HS1 := hide S
      clear S HS
      obtain ⟨wr0, ewr0⟩ : ∃ z : World, z = wr := ⟨_, rfl⟩
      subst ewr0
      go_wp2_with fail
      go_loopg [11, 61] (n + 1) (fun gn a b wq => ∃ x : Nat, x ≤ n ∧ n - x < gn ∧ b = .int .i64 x ∧ Hid (wq.ownsRow wr0.heap.size 9 1 a x (shRows F st t x)) ∧ Hid (Below wr0.heap.size wr0 wq))
      case atStart => exact ⟨0, by omega, by omega, rfl, World.ownsRow_nil _ _ _ _, Below.refl _ _⟩
      case round =>
        obtain ⟨x, hx, hgx, rfl, HR, HQ⟩ := hrel
        have hzq := HQ.out.size
        have HBq : Hid (Below w.heap.size w wr) := HB.out.trans (HQ.out.mono hz)
        by_cases hxn : x < n
        · have c0 : wr.cell? ⟨blk, off + x, none⟩ = some (.string (F x)) := (HBq.out.cell (p := ⟨blk, off + x, none⟩) l0).trans (HC.out x hxn)
          have l3 : blk < wr.heap.size := by have := HBq.out.size; omega
          have hFx := HFS.out x hxn
          obtain ⟨wq, ewq⟩ : ∃ z : World, z = wr := ⟨_, rfl⟩
          subst ewq
          go_wp2_with fail
          clear c0
          go_loopg [14, 15] (W + 1) (fun gn sv b wc => ∃ y : Nat, y ≤ W ∧ W - y < gn ∧ b = .int .i64 y ∧ sv = .string (strOfNums (shL F st t x y)) ∧ Hid (Below wq.heap.size wq wc))
          case atStart => exact ⟨0, by omega, by omega, rfl, rfl, Below.refl _ _⟩
          case round =>
            obtain ⟨y, hy, hgy, rfl, rfl, HQ2⟩ := hrel
            have HBc : Hid (Below wr0.heap.size wr0 wr) := HQ.out.trans (HQ2.out.mono hzq)
            have hSz : (strOfNums (shL F st t x y)).size = y := by rw [strOfNums_size, shL_len]
            have HNX : Hid (strOfNums (shL F st t x (y + 1)) = strOfNums (shL F st t x y) ++ strOfNums [shB F st t x y]) := by show _ = _; rw [shL_next, nums_app]
            obtain ⟨sv, hsv⟩ : ∃ z, z = strOfNums (shL F st t x y) := ⟨_, rfl⟩
            rw [← hsv] at hSz HNX
            rw [← hsv]
            have HSV := hide hsv
            clear hsv
            by_cases hyW : y < W
            · have dy : decide ((y : Int) < ((F x).size : Int)) = true := by rw [hFx]; exact decide_eq_true (by omega)
              have dy' : decide (y < (F x).size) = true := by rw [hFx]; exact decide_eq_true hyW
              obtain ⟨wc, ewc⟩ : ∃ z : World, z = wr := ⟨_, rfl⟩
              subst ewc
              have S2 := hide (HS1.out.below HBc.out)
              have hxW : x * W + y < N := by
                have h1 : (x + 1) * W ≤ n * W := Nat.mul_le_mul_right _ (by omega)
                have h2 : (x + 1) * W = x * W + W := Nat.succ_mul _ _
                have h3 := HN.out
                have h4 := HW.out
                rw [h4] at h1 h2 ⊢
                omega
              obtain ⟨i, hi⟩ : ∃ i, i = x * W + y := ⟨_, rfl⟩
              rw [← hi] at hxW
              have z1 : IntKind.i64.wrap ((x : Int) * (W : Int)) = (x : Int) * (W : Int) := IntWalk.i64_in _ (by
                have e : (x : Int) * (W : Int) = ((x * W : Nat) : Int) := by push_cast; rfl
                rw [e]; omega)
              have z2 : IntKind.i64.wrap ((x : Int) * (W : Int) + (y : Int)) = (i : Int) := by
                have e : (x : Int) * (W : Int) + (y : Int) = (i : Int) := by rw [hi]; push_cast; rfl
                rw [e]; exact IntWalk.i64_in _ (by omega)
              have HIW : Hid (i = x * W + y) := hi
              have HBND : Hid (∀ j, j ≤ t → -1 ≤ shJ st i j ∧ shJ st i j < j) := fun j _ => shJ_bd st i j
              clear hi
              go_wp2_with fail
              clear dy dy' z1 z2
              go_loopg [17, 80] (t + 1) (fun gn bv jv wz => ∃ j : Nat, j ≤ t ∧ t - j < gn ∧ jv = .int .i64 j ∧ bv = .int .i64 (shJ st i j) ∧ Hid (Below wc.heap.size wc wz))
              case atStart => exact ⟨0, by omega, by omega, rfl, rfl, Below.refl _ _⟩
              case round =>
                obtain ⟨j, hj, hgj, rfl, rfl, HZ⟩ := hrel
                obtain ⟨jb1, jb2⟩ := HBND.out j hj
                have hGl2 : G < wr.heap.size := by have := HBc.out.size; have := HZ.out.size; omega
                by_cases hjt : j < t
                · have S3 := hide (S2.out.below HZ.out)
                  have a0 := S3.out.at_ hjt
                  have a1 := S3.out.cell hjt hxW
                  have a2 := (S3.out.num j hjt).2
                  have HN0 : Hid (shJ st i (j + 1) = if 0 ≤ st j i ∧ (shJ st i j < 0 ∨ st j i < st (shJ st i j).toNat i) then (j : Int) else shJ st i j) := rfl
                  obtain ⟨s1, hs1⟩ : ∃ z, z = st j i := ⟨_, rfl⟩
                  rw [← hs1] at a1 HN0
                  obtain ⟨J, hJ⟩ : ∃ z, z = shJ st i j := ⟨_, rfl⟩
                  rw [← hJ] at jb1 jb2 HN0
                  rw [← hJ]
                  clear hJ hs1
                  by_cases hs0 : 0 ≤ s1
                  · have d0 : decide (s1 ≥ 0) = true := decide_eq_true hs0
                    have d0' : decide (0 ≤ s1) = true := decide_eq_true hs0
                    by_cases hJ0 : J < 0
                    · have d1 : decide (J < 0) = true := decide_eq_true hJ0
                      have HN1 : Hid (shJ st i (j + 1) = (j : Int)) := by show _ = _; rw [HN0.out, if_pos ⟨hs0, .inl hJ0⟩]
                      go_wp2_with fail
                      (refine wp_region_below_lit (by kernel_rfl) (by kernel_rfl) ?_; (repeat (first | go_big_quiet_step (fail) | quiet_step (fail))); refine wpQuiet_nil ?_; intro w2 hb2; have hz2 := hb2.size; (try (simp at hz2)); obtain ⟨hcw2, hfw2⟩ := bcell hb2; (try (have hy2 : w.heap.size < w2.heap.size := by omega)); (try (have hyy2 : w.heap.size + 1 < w2.heap.size := by omega)))
                      have HZ2 : Hid (Below wc.heap.size wc w2) := HZ.out.trans (hb2.mono HZ.out.size)
                      clear a0 a1 hcw2 hfw2 hb2
                      go_wp2_with fail
                      go_roundg (t - j)
                      case measure => omega
                      case rel => exact ⟨j + 1, by omega, by omega, by go_num, by rw [HN1.out], HZ2.out⟩
                    · have d1 : decide (J < 0) = false := decide_eq_false hJ0
                      obtain ⟨K, rfl⟩ : ∃ K : Nat, J = K := ⟨J.toNat, by omega⟩
                      have hKt : K < t := by omega
                      have b0 := S3.out.at_ hKt
                      have b1 := S3.out.cell hKt hxW
                      have b2 := (S3.out.num K hKt).2
                      have HN2 : Hid (shJ st i (j + 1) = if s1 < st K i then (j : Int) else (K : Int)) := by
                        show _ = _
                        rw [HN0.out]
                        by_cases h : s1 < st K i
                        · rw [if_pos ⟨hs0, .inr (by simpa using h)⟩, if_pos h]
                        · rw [if_neg (by rintro ⟨_, h1 | h1⟩; · exact hJ0 h1
                                         · exact h (by simpa using h1)), if_neg h]
                      obtain ⟨s2, hs2⟩ : ∃ z, z = st K i := ⟨_, rfl⟩
                      rw [← hs2] at b1 HN2
                      clear hs2
                      by_cases hlt : s1 < s2
                      · have d2 : decide (s1 < s2) = true := decide_eq_true hlt
                        have HN1 : Hid (shJ st i (j + 1) = (j : Int)) := by show _ = _; rw [HN2.out, if_pos hlt]
                        go_wp2_with fail
                        (refine wp_region_below_lit (by kernel_rfl) (by kernel_rfl) ?_; (repeat (first | go_big_quiet_step (fail) | quiet_step (fail))); refine wpQuiet_nil ?_; intro w2 hb2; have hz2 := hb2.size; (try (simp at hz2)); obtain ⟨hcw2, hfw2⟩ := bcell hb2; (try (have hy2 : w.heap.size < w2.heap.size := by omega)); (try (have hyy2 : w.heap.size + 1 < w2.heap.size := by omega)))
                        have HZ2 : Hid (Below wc.heap.size wc w2) := HZ.out.trans (hb2.mono HZ.out.size)
                        clear a0 a1 b0 b1 hcw2 hfw2 hb2
                        go_wp2_with fail
                        go_roundg (t - j)
                        case measure => omega
                        case rel => exact ⟨j + 1, by omega, by omega, by go_num, by rw [HN1.out], HZ2.out⟩
                      · have d2 : decide (s1 < s2) = false := decide_eq_false hlt
                        have HN1 : Hid (shJ st i (j + 1) = (K : Int)) := by show _ = _; rw [HN2.out, if_neg hlt]
                        go_wp2_with fail
                        (refine wp_region_below_lit (by kernel_rfl) (by kernel_rfl) ?_; (repeat (first | go_big_quiet_step (fail) | quiet_step (fail))); refine wpQuiet_nil ?_; intro w2 hb2; have hz2 := hb2.size; (try (simp at hz2)); obtain ⟨hcw2, hfw2⟩ := bcell hb2; (try (have hy2 : w.heap.size < w2.heap.size := by omega)); (try (have hyy2 : w.heap.size + 1 < w2.heap.size := by omega)))
                        have HZ2 : Hid (Below wc.heap.size wc w2) := HZ.out.trans (hb2.mono HZ.out.size)
                        clear a0 a1 b0 b1 hcw2 hfw2 hb2
                        go_wp2_with fail
                        go_roundg (t - j)
                        case measure => omega
                        case rel => exact ⟨j + 1, by omega, by omega, by go_num, by rw [HN1.out], HZ2.out⟩
                  · have d0 : decide (s1 ≥ 0) = false := decide_eq_false hs0
                    have d0' : decide (0 ≤ s1) = false := decide_eq_false hs0
                    have HN1 : Hid (shJ st i (j + 1) = J) := by show _ = _; rw [HN0.out, if_neg (fun h => hs0 h.1)]
                    go_wp2_with fail
                    (refine wp_region_below_lit (by kernel_rfl) (by kernel_rfl) ?_; (repeat (first | go_big_quiet_step (fail) | quiet_step (fail))); refine wpQuiet_nil ?_; intro w2 hb2; have hz2 := hb2.size; (try (simp at hz2)); obtain ⟨hcw2, hfw2⟩ := bcell hb2; (try (have hy2 : w.heap.size < w2.heap.size := by omega)); (try (have hyy2 : w.heap.size + 1 < w2.heap.size := by omega)))
                    have HZ2 : Hid (Below wc.heap.size wc w2) := HZ.out.trans (hb2.mono HZ.out.size)
                    clear a0 a1 hcw2 hfw2 hb2
                    go_wp2_with fail
                    go_roundg (t - j)
                    case measure => omega
                    case rel => exact ⟨j + 1, by omega, by omega, by go_num, by rw [HN1.out], HZ2.out⟩
                · obtain rfl : j = t := by omega
                  have HSB : Hid (shB F st j x y = if shJ st i j < 0 then byteAt (F x) y else 97 + shJ st i j) := by show _ = _; rw [shB, ← HW.out, ← HIW.out]
                  obtain ⟨J, hJ⟩ : ∃ z, z = shJ st i j := ⟨_, rfl⟩
                  rw [← hJ] at jb1 jb2 HSB
                  rw [← hJ]
                  clear hJ
                  have HQ3 : Hid (Below wq.heap.size wq wr) := HQ2.out.trans (HZ.out.mono HQ2.out.size)
                  by_cases hJ0 : J < 0
                  · have d0 : decide (J < 0) = true := decide_eq_true hJ0
                    have HEX : Hid (sv ++ (F x).extract y (y + 1) = strOfNums (shL F st j x (y + 1))) := by
                      show _ = _
                      rw [HNX.out, HSB.out, if_pos hJ0, one_at (by rw [hFx]; exact hyW)]
                    have hms : ¬ 9223372036854775807 < sv.size + (min (y + 1) (F x).size - y) := by omega
                    have hy1 : y + 1 ≤ (F x).size := by omega
                    go_wp2_with fail
                    go_roundg (W - y)
                    case measure => omega
                    case rel => exact ⟨y + 1, by omega, by omega, by go_num, by rw [← HEX.out], HQ3.out⟩
                  · have d0 : decide (J < 0) = false := decide_eq_false hJ0
                    obtain ⟨K, rfl⟩ : ∃ K : Nat, J = K := ⟨J.toNat, by omega⟩
                    have hK8 : K < 8 := by omega
                    have HEX : Hid (sv ++ (⟨#[97, 98, 99, 100, 101, 102, 103, 104]⟩ : ByteArray).extract K (K + 1) = strOfNums (shL F st j x (y + 1))) := by
                      show _ = _
                      rw [HNX.out, HSB.out, if_neg hJ0, abc_at hK8]
                    have hms : ¬ 9223372036854775807 < sv.size + (min (K + 1) 8 - K) := by omega
                    go_wp2_with fail
                    go_roundg (W - y)
                    case measure => omega
                    case rel => exact ⟨y + 1, by omega, by omega, by go_num, by rw [← HEX.out], HQ3.out⟩
            · obtain rfl : y = W := by omega
              have dy : decide ((y : Int) < ((F x).size : Int)) = false := by rw [hFx]; exact decide_eq_false (by omega)
              have dy' : decide (y < (F x).size) = false := by rw [hFx]; exact decide_eq_false (by omega)
              have HRR : Hid (sv = shR F st t x) := by show _ = _; rw [HSV.out, shR, ← HW.out]
              have HR2 := hide (row_below HR.out HQ2.out (Nat.le_refl _))
              have hzq2 := HBc.out.size
              go_wp2_with (at_builtin; refine wpList_append_own _ rfl _ _ 22 rfl wr0.heap.size 9 is (.string ⟨#[]⟩) 1 16 Tryd.underlying22 his js0 js1 js2 rfl (by decide) _ _ _ rfl (HR2.out.alloc _) ⟨wr.heap.size, 0, none⟩ 1 1 [.string sv] rfl rfl ?_ ?_ ?_ ?_ ?_ ?_)
              · intro i u hu
                match i, hu with
                | 0, hu => simp at hu; subst hu; simp [go_sem, Addr.add]
              · intro u hu; simp at hu; subst hu; rfl
              · unfold maxLen; omega
              · omega
              · simp; omega
              intro v' w5 hown5 hg5 _
              have HB5 : Hid (Below wr0.heap.size wr0 w5) := (HBc.out.alloc hzq2 _).grown hg5 (by simp; omega) (fun g hg => (HR2.out.lt g hg).1)
              have HR5 : Hid (w5.ownsRow wr0.heap.size 9 1 v' (x + 1) (shRows F st t (x + 1))) := by
                show World.ownsRow _ _ _ _ _ _ _
                rw [shRows_next, ← HRR.out]
                exact hown5
              clear hown5 hg5
              go_wp2_with fail
              go_roundg (n - x)
              case measure => omega
              case rel => exact ⟨x + 1, by omega, by omega, by go_num, HR5.out, HB5.out⟩
        · obtain rfl : x = n := by omega
          obtain ⟨B5, c5, rfl⟩ := row_form HR.out
          go_wp2_with fail
          go_ret2
          refine sh_row HX.out (lo := wr0.heap.size) ?_ hz HBq.out
          rw [← HST.out]
          exact HR.out
theorem ShareOut_spec (F : Nat → ByteArray) (n : Nat) (p q : Nat → Int) (m lo hi : Nat) (v : Value) (lo2 hi2 : Nat) (u : Value) (w : World) (hv : Sl w lo hi 1 v n (sC F)) (hhi : hi ≤ w.heap.size) (hu : Sl w lo2 hi2 2 u m (iiC p q)) (hhi2 : hi2 ≤ w.heap.size) (hf : ffits F n) :
    Calls Tryd.prog 23 #[v, u] w fun e w' => ∃ v', e = .returned (.tuple #[v', .bool (shOk F n p q m)]) ∧ Own w' w.heap.size w'.heap.size 9 1 v' (shN F n p q m) (shN F n p q m) (sC (shT F n p q m)) ∧ Below w.heap.size w w' :=
  ShareOut_specR F n p q m lo hi v lo2 hi2 u w hv hhi hu hhi2 hf

end Go.Proofs.YtpckhpkbdanjoaaDoor

/-
  Plain words for FnSearches: shares: a start has its own letter, what a start reaches has a letter from a to h. No program in sight.-/
namespace Go.Proofs.YtpckhpkbdanjoaaDoor
set_option linter.unusedVariables false
set_option linter.unusedSimpArgs false

theorem shJ_spec (st : Nat → Nat → Int) (i : Nat) : ∀ j, (shJ st i j < 0 ∧ ∀ s, s < j → st s i < 0) ∨ ∃ t : Nat, shJ st i j = t ∧ t < j ∧ 0 ≤ st t i ∧ ∀ s, s < j → 0 ≤ st s i → st t i ≤ st s i
  | 0 => .inl ⟨by show (-1 : Int) < 0; omega, fun s hs => absurd hs (Nat.not_lt_zero _)⟩
  | j + 1 => by
    by_cases hc : 0 ≤ st j i ∧ (shJ st i j < 0 ∨ st j i < st (shJ st i j).toNat i)
    · refine .inr ⟨j, shJ_yes hc.1 hc.2, by omega, hc.1, fun s hs h0 => ?_⟩
      rcases Nat.lt_or_ge s j with h1 | h1
      · rcases shJ_spec st i j with ⟨a1, a2⟩ | ⟨t, a1, a2, a3, a4⟩
        · have := a2 s h1; omega
        · have h2 := a4 s h1 h0
          rcases hc.2 with h3 | h3
          · omega
          · rw [a1, Int.toNat_natCast] at h3; omega
      · obtain rfl : s = j := by omega
        exact Int.le_refl _
    · rw [shJ_no hc]
      rcases shJ_spec st i j with ⟨a1, a2⟩ | ⟨t, a1, a2, a3, a4⟩
      · refine .inl ⟨a1, fun s hs => ?_⟩
        rcases Nat.lt_or_ge s j with h1 | h1
        · exact a2 s h1
        · obtain rfl : s = j := by omega
          by_cases h2 : 0 ≤ st s i
          · exact absurd ⟨h2, .inl a1⟩ hc
          · omega
      · refine .inr ⟨t, a1, by omega, a3, fun s hs h0 => ?_⟩
        rcases Nat.lt_or_ge s j with h1 | h1
        · exact a4 s h1 h0
        · obtain rfl : s = j := by omega
          by_cases h2 : st s i < st t i
          · exact absurd ⟨h0, .inr (by rw [a1, Int.toNat_natCast]; exact h2)⟩ hc
          · omega
theorem byteAt_nums (xs : List Int) {k : Nat} (hk : k < xs.length) (hx : 0 ≤ xs[k] ∧ xs[k] ≤ 255) : byteAt (strOfNums xs) k = xs[k] := by
  have h1 : k < (strOfNums xs).size := by rw [strOfNums_size]; exact hk
  rw [byteAt, dif_pos h1]
  have e : (strOfNums xs)[k] = UInt8.ofNat (xs[k]).toNat := by
    show ((xs.map fun n => UInt8.ofNat n.toNat).toArray)[k]'(by simpa using hk) = _
    simp
  rw [e, UInt8.toNat_ofNat', Nat.mod_eq_of_lt (by omega)]
  omega
section
variable {F : Nat → ByteArray} {n m : Nat} {p q : Nat → Int}
theorem shT_byte {x y : Nat} (hy : y < (F 0).size) (hJ : 0 ≤ shJ (shS F n p q) (x * (F 0).size + y) m) (hm : m ≤ 8) : byteAt (shT F n p q m x) y = 97 + shJ (shS F n p q) (x * (F 0).size + y) m := by
  have hl : y < (shL F (shS F n p q) m x (F 0).size).length := by rw [shL_len]; exact hy
  have hb := shJ_bd (shS F n p q) (x * (F 0).size + y) m
  have e : (shL F (shS F n p q) m x (F 0).size)[y] = 97 + shJ (shS F n p q) (x * (F 0).size + y) m := by
    simp only [shL, List.getElem_map, List.getElem_range]
    rw [shB, if_neg (by omega)]
  show byteAt (strOfNums _) y = _
  rw [byteAt_nums _ hl (by rw [e]; omega), e]
/-- A start has its own letter. -/
theorem share_start (h : shOk F n p q m = true) {i : Nat} (hi : i < m) : ∃ x y : Nat, p i = x ∧ q i = y ∧ x < n ∧ y < (F 0).size ∧ byteAt (shT F n p q m x) y = 97 + (i : Int) := by
  obtain ⟨h1, ⟨h2, h3⟩, h4⟩ := sh_facts h
  have hop : opP F n (p i, q i) = true := (h4 i hi).1
  obtain ⟨a1, a2, a3, a4⟩ := opP_bd hop
  obtain ⟨x, hx⟩ : ∃ x : Nat, p i = x := ⟨_, (Int.toNat_of_nonneg a1).symm⟩
  obtain ⟨y, hy⟩ : ∃ y : Nat, q i = y := ⟨_, (Int.toNat_of_nonneg a3).symm⟩
  have hxn : x < n := by have h : p i < n := a2; omega
  have hyW : y < (F 0).size := by have h : q i < (F 0).size := a4; omega
  have hix : x * (F 0).size + y = ixF F (p i, q i) := by
    have e := ix_cast hop
    simp only [hx, hy] at e ⊢
    have : ((x * (F 0).size + y : Nat) : Int) = (ixF F ((x : Int), (y : Int)) : Int) := by rw [← e]; push_cast; rfl
    exact Int.ofNat_inj.1 this
  have h0 : shS F n p q i (x * (F 0).size + y) = 0 := by
    rw [hix]
    exact stF_zero hop
  have hJ : shJ (shS F n p q) (x * (F 0).size + y) m = i := by
    rcases shJ_spec (shS F n p q) (x * (F 0).size + y) m with ⟨b1, b2⟩ | ⟨t, b1, b2, b3, b4⟩
    · have := b2 i hi; omega
    · have h5 := b4 i hi (by omega)
      have h6 : shS F n p q t (x * (F 0).size + y) = 0 := by omega
      have ht : opP F n (p t, q t) = true := (h4 t b2).1
      have h7 : stF F n (p t, q t) (ixF F (p i, q i)) = 0 := by rw [← hix]; exact h6
      have h8 : (p i, q i) = (p t, q t) := by
        rcases stF_near ht hop (by omega) with e | ⟨e, _⟩
        · exact e
        · omega
      injection h8 with e1 e2
      have no : ∀ u v, u < v → v < m → p u = p v → q u = q v → False := fun u v huv hv hp hq => by
        have h9 := (h4 v hv).2
        have h10 : hasC p q (p v) (q v) v = true := some_iff.2 ⟨u, huv, by simp [hp, hq]⟩
        rw [h9] at h10
        cases h10
      rcases Nat.lt_trichotomy t i with h9 | h9 | h9
      · exact (no t i h9 hi e1.symm e2.symm).elim
      · rw [b1, h9]
      · exact (no i t h9 b2 e1 e2).elim
  refine ⟨x, y, hx, hy, hxn, hyW, ?_⟩
  rw [shT_byte hyW (by omega) h3, hJ]
/-- What a start reaches has a letter from a to h. -/
theorem share_letter (h : shOk F n p q m = true) {i : Nat} (hi : i < m) {k : Nat} (hk : k < n * (F 0).size) (hr : 0 ≤ sfO F n (p i) (q i) k) : 97 ≤ byteAt (shT F n p q m (k / (F 0).size)) (k % (F 0).size) ∧ byteAt (shT F n p q m (k / (F 0).size)) (k % (F 0).size) ≤ 104 := by
  obtain ⟨h1, ⟨h2, h3⟩, h4⟩ := sh_facts h
  obtain ⟨g1, g2, g3, g4, _⟩ := flB_facts h1
  have hW : 0 < (F 0).size := by omega
  have e : k / (F 0).size * (F 0).size + k % (F 0).size = k := Nat.div_add_mod' _ _
  have hb := shJ_bd (shS F n p q) k m
  have hJ : 0 ≤ shJ (shS F n p q) k m := by
    rcases shJ_spec (shS F n p q) k m with ⟨b1, b2⟩ | ⟨t, b1, _⟩
    · have h5 := b2 i hi
      have h6 : shS F n p q i k = sfO F n (p i) (q i) k := rfl
      omega
    · omega
  have := shT_byte (F := F) (n := n) (m := m) (p := p) (q := q) (x := k / (F 0).size) (y := k % (F 0).size) (Nat.mod_lt _ hW) (by rw [e]; exact hJ) h3
  rw [e] at this
  rw [this]
  omega
end

end Go.Proofs.YtpckhpkbdanjoaaDoor

/-
  Words for FnSearches' walk: cells of slices that lie somewhere; bounds.-/
namespace Go.Proofs.YtpckhpkbdanjoaaDoor
set_option linter.unusedVariables false
set_option linter.unusedSimpArgs false
open Go.RowKit

section
variable {w : World} {A : Option Addr} {N c b o : Nat} {f g : Nat → Int} {F : Nat → ByteArray}
theorem SlW.form {sz : Nat} {C : Nat → Nat → Value} (h : SlW w sz (.slice A N c) N C) (hN : 0 < N) : ∃ b o, A = some ⟨b, o, none⟩ := by
  obtain ⟨A', cap', e, _, hA⟩ := Sl.open_ h
  injection e with e1 e2 e3
  subst e1
  obtain ⟨b, o, hb, _⟩ := hA hN
  exact ⟨b, o, hb⟩
theorem SlW.at {sz : Nat} {C : Nat → Nat → Value} (h : SlW w sz (.slice (some ⟨b, o, none⟩) N c) N C) {k j : Nat} (hk : k < N) (hj : j < sz) : w.cell? ⟨b, o + k * sz + j, none⟩ = some (C k j) ∧ b < w.heap.size := by
  obtain ⟨A', cap', e, _, hA⟩ := Sl.open_ h
  injection e with e1 e2 e3
  subst e1
  obtain ⟨b', o', hb, _, h2, h3⟩ := hA (by omega)
  injection hb with hb
  injection hb with h4 h5
  subst h4 h5
  exact ⟨h3 k j hk hj, h2⟩
theorem SlW.ii (h : SlW w 2 (.slice (some ⟨b, o, none⟩) N c) N (iiC f g)) {k : Nat} (hk : k < N) : w.cell? ⟨b, o + k * 2, none⟩ = some (.int .i64 (f k)) ∧ w.cell? ⟨b, o + k * 2 + 1, none⟩ = some (.int .i64 (g k)) ∧ b < w.heap.size :=
  ⟨by simpa [iiC] using (h.at hk (j := 0) (by omega)).1, by simpa [iiC] using (h.at hk (j := 1) (by omega)).1, (h.at hk (j := 0) (by omega)).2⟩
theorem SlW.ii0 (h : SlW w 2 (.slice (some ⟨b, o, none⟩) N c) N (iiC f g)) (hk : 0 < N) : w.cell? ⟨b, o, none⟩ = some (.int .i64 (f 0)) ∧ w.cell? ⟨b, o + 1, none⟩ = some (.int .i64 (g 0)) ∧ b < w.heap.size :=
  ⟨by simpa [iiC] using (h.at hk (j := 0) (by omega)).1, by simpa [iiC] using (h.at hk (j := 1) (by omega)).1, (h.at hk (j := 0) (by omega)).2⟩
theorem SlW.i1 (h : SlW w 1 (.slice (some ⟨b, o, none⟩) N c) N (iC f)) {k : Nat} (hk : k < N) : w.cell? ⟨b, o + k, none⟩ = some (.int .i64 (f k)) ∧ b < w.heap.size :=
  ⟨by simpa [iC] using (h.at hk (j := 0) (by omega)).1, (h.at hk (j := 0) (by omega)).2⟩
theorem SlW.s1 (h : SlW w 1 (.slice (some ⟨b, o, none⟩) N c) N (sC F)) {k : Nat} (hk : k < N) : w.cell? ⟨b, o + k, none⟩ = some (.string (F k)) ∧ b < w.heap.size :=
  ⟨by simpa [sC] using (h.at hk (j := 0) (by omega)).1, (h.at hk (j := 0) (by omega)).2⟩
theorem SlW.s0 (h : SlW w 1 (.slice (some ⟨b, o, none⟩) N c) N (sC F)) (hk : 0 < N) : w.cell? ⟨b, o, none⟩ = some (.string (F 0)) ∧ b < w.heap.size :=
  ⟨by simpa [sC] using (h.at hk (j := 0) (by omega)).1, (h.at hk (j := 0) (by omega)).2⟩
end
theorem hasC_snoc {p q : Nat → Int} {x y : Int} {m : Nat} : hasC p q x y (m + 1) = (hasC p q x y m || (decide (p m = x) && decide (q m = y))) := by
  rw [Bool.eq_iff_iff, Bool.or_eq_true, hasC, hasC, some_iff, some_iff]
  constructor
  · rintro ⟨t, ht, e⟩
    rcases Nat.lt_or_ge t m with h | h
    · exact .inl ⟨t, h, e⟩
    · obtain rfl : t = m := by omega
      exact .inr e
  · rintro (⟨t, ht, e⟩ | e)
    · exact ⟨t, by omega, e⟩
    · exact ⟨m, by omega, e⟩
theorem hasC_zero {p q : Nat → Int} {x y : Int} : hasC p q x y 0 = false := by
  rw [Bool.eq_false_iff, ne_eq, hasC, some_iff]
  rintro ⟨t, ht, _⟩
  omega
theorem uns_bd {F : Nat → ByteArray} {n : Nat} {r c : Int} {b : Bool} (h : sfOk F n r c = true) (i : Nat) : 0 ≤ unC F n r c b i ∧ unC F n r c b i < 12 := by
  obtain ⟨g1, g2, g3, g4, _⟩ := flB_facts (sf_two h).1
  rw [unC, cI]
  have h1 := Int.emod_nonneg (fltI (unP F n r c b) (n * (F 0).size) i) (b := ((F 0).size : Int)) (by omega)
  have h2 := Int.emod_lt_of_pos (fltI (unP F n r c b) (n * (F 0).size) i) (b := ((F 0).size : Int)) (by omega)
  omega
theorem seOk_of {F : Nat → ByteArray} {n m : Nat} {p q : Nat → Int} (h : flB F n = true) (hm : m ≤ 1000) (ho : ∀ i, i < m → opB F n (p i) (q i) = true) : seOk F n p q m = true := by
  simp only [seOk, Bool.and_eq_true, decide_eq_true_eq, allB_iff]
  exact ⟨⟨h, hm⟩, ho⟩
theorem shT_size {F : Nat → ByteArray} {n m i : Nat} {p q : Nat → Int} : (shT F n p q m i).size = (F 0).size := by
  rw [shT, shR, strOfNums_size, shL_len]
theorem srAbc {i : Nat} (h : i < 8) : ∃ b : UInt8, ({ data := #[97, 98, 99, 100, 101, 102, 103, 104] } : ByteArray)[i]? = some b ∧ (∀ h, ({ data := #[97, 98, 99, 100, 101, 102, 103, 104] } : ByteArray)[i]'h = b) ∧ (b.toNat : Int) = 97 + (i : Int) := by
  match i, h with
  | 0, _ => exact ⟨97, rfl, fun _ => rfl, rfl⟩
  | 1, _ => exact ⟨98, rfl, fun _ => rfl, rfl⟩
  | 2, _ => exact ⟨99, rfl, fun _ => rfl, rfl⟩
  | 3, _ => exact ⟨100, rfl, fun _ => rfl, rfl⟩
  | 4, _ => exact ⟨101, rfl, fun _ => rfl, rfl⟩
  | 5, _ => exact ⟨102, rfl, fun _ => rfl, rfl⟩
  | 6, _ => exact ⟨103, rfl, fun _ => rfl, rfl⟩
  | 7, _ => exact ⟨104, rfl, fun _ => rfl, rfl⟩

end Go.Proofs.YtpckhpkbdanjoaaDoor
