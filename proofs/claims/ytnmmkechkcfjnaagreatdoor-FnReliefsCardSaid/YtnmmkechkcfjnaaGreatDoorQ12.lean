/-
  Texts of this proof, one behind the other (part 12).
-/
import Derived.Test.YtnmmkechkcfjnaaGreatDoorQ11
import Derived.Lib.SliceRun
import Derived.Deep.RegionLaw
import Derived.Lib.AppendZeros
import Derived.Lib.AppendZerosOnto
import Derived.Lib.Overlaps
import Derived.Laws.Externs
import Derived.Laws.NewBlocks
/-
  Walks: the plan of reliefs, and the reference's.-/
namespace Go.Proofs.YtnmmkechkcfjnaaGreatDoor
set_option linter.unusedVariables false
set_option linter.unusedSimpArgs false
open Go.RowKit

theorem infoPerP : (Tryz.prog.info? 38).map (fun i => (i.zero, i.size, i.bytes)) = some (some (.agg #[.string ⟨#[]⟩, .int .i64 0, .int .i64 0]), 3, 32) := by kernel_rfl

set_option maxRecDepth 100000 in
set_option maxHeartbeats 3200000 in
theorem ReliefPlan_impl (c : Nat → ByteArray) (n : Nat) (p q r t : Int) (lo hi : Nat) (v : Value) (w : World) (hv : Sl w lo hi 1 v n (sC c)) (hhi : hi ≤ w.heap.size) (hf : pfits c n) :
    Calls Tryz.prog 6 #[v, .int .i64 p, .int .i64 q, .int .i64 r, .int .i64 t] w (PlRes c n p q r t (plOk c n p q r t) w) := by
  obtain ⟨A, cap, rfl, hcap, hA⟩ := hv.open_
  obtain ⟨hn, hsz⟩ := hf
  obtain ⟨ii, hii, iz0, iz1, iz2⟩ := info_parts infoPerP
  cases hc1_0 : inB p 0 9999 with
  | false =>
    have HX : Hid (plOk c n p q r t = false) := by show _ = _; simp [plOk, spanB, *]
    go_enter Tryz.func6, Tryz.ntmps6
    go_wp2_with (first | (go_at_call 31; refine (isMinute_any _ _).mono ?_; rintro e w' ⟨rfl, rfl⟩) | (go_at_call 32; refine (inside_any _ _ _ _).mono ?_; rintro e w' ⟨rfl, rfl⟩))
    go_ret2
    rw [HX.out]
    exact pl_nil HX.out (by repeat (first | (with_reducible exact Below.refl _ _) | (with_reducible refine below_ov ?_ ?_) | (with_reducible refine Below.setCell ?_ ?_ _) | (with_reducible refine Below.alloc ?_ ?_ _) | (with_reducible refine Below.drew ?_) | (with_reducible refine below_drewN ?_ _) | (refine Below.trans ?_ (Below.mono ‹Below _ _ _› (by first | omega | (simp; done) | (simp; omega)))) | exact Below.refl _ _ | omega | (focus (simp; done)) | (focus (simp; omega))))
  | true =>
    obtain ⟨hc1_0l, hc1_0r⟩ := inB_iff.1 hc1_0
    cases hc1_1 : inB q 0 9999 with
    | false =>
      have HX : Hid (plOk c n p q r t = false) := by show _ = _; simp [plOk, spanB, *]
      go_enter Tryz.func6, Tryz.ntmps6
      go_wp2_with (first | (go_at_call 31; refine (isMinute_any _ _).mono ?_; rintro e w' ⟨rfl, rfl⟩) | (go_at_call 32; refine (inside_any _ _ _ _).mono ?_; rintro e w' ⟨rfl, rfl⟩))
      go_ret2
      rw [HX.out]
      exact pl_nil HX.out (by repeat (first | (with_reducible exact Below.refl _ _) | (with_reducible refine below_ov ?_ ?_) | (with_reducible refine Below.setCell ?_ ?_ _) | (with_reducible refine Below.alloc ?_ ?_ _) | (with_reducible refine Below.drew ?_) | (with_reducible refine below_drewN ?_ _) | (refine Below.trans ?_ (Below.mono ‹Below _ _ _› (by first | omega | (simp; done) | (simp; omega)))) | exact Below.refl _ _ | omega | (focus (simp; done)) | (focus (simp; omega))))
    | true =>
      obtain ⟨hc1_1l, hc1_1r⟩ := inB_iff.1 hc1_1
      cases hc1_2 : decide (p < q) with
      | false =>
        have hc1_2l := of_decide_eq_false hc1_2
        have HX : Hid (plOk c n p q r t = false) := by show _ = _; simp [plOk, spanB, *]
        go_enter Tryz.func6, Tryz.ntmps6
        go_wp2_with (first | (go_at_call 31; refine (isMinute_any _ _).mono ?_; rintro e w' ⟨rfl, rfl⟩) | (go_at_call 32; refine (inside_any _ _ _ _).mono ?_; rintro e w' ⟨rfl, rfl⟩))
        go_ret2
        rw [HX.out]
        exact pl_nil HX.out (by repeat (first | (with_reducible exact Below.refl _ _) | (with_reducible refine below_ov ?_ ?_) | (with_reducible refine Below.setCell ?_ ?_ _) | (with_reducible refine Below.alloc ?_ ?_ _) | (with_reducible refine Below.drew ?_) | (with_reducible refine below_drewN ?_ _) | (refine Below.trans ?_ (Below.mono ‹Below _ _ _› (by first | omega | (simp; done) | (simp; omega)))) | exact Below.refl _ _ | omega | (focus (simp; done)) | (focus (simp; omega))))
      | true =>
        have hc1_2l := of_decide_eq_true hc1_2
        cases hc1_3 : inB r 1 720 with
        | false =>
          have HX : Hid (plOk c n p q r t = false) := by show _ = _; simp [plOk, spanB, *]
          go_enter Tryz.func6, Tryz.ntmps6
          go_wp2_with (first | (go_at_call 31; refine (isMinute_any _ _).mono ?_; rintro e w' ⟨rfl, rfl⟩) | (go_at_call 32; refine (inside_any _ _ _ _).mono ?_; rintro e w' ⟨rfl, rfl⟩))
          go_ret2
          rw [HX.out]
          exact pl_nil HX.out (by repeat (first | (with_reducible exact Below.refl _ _) | (with_reducible refine below_ov ?_ ?_) | (with_reducible refine Below.setCell ?_ ?_ _) | (with_reducible refine Below.alloc ?_ ?_ _) | (with_reducible refine Below.drew ?_) | (with_reducible refine below_drewN ?_ _) | (refine Below.trans ?_ (Below.mono ‹Below _ _ _› (by first | omega | (simp; done) | (simp; omega)))) | exact Below.refl _ _ | omega | (focus (simp; done)) | (focus (simp; omega))))
        | true =>
          obtain ⟨hc1_3l, hc1_3r⟩ := inB_iff.1 hc1_3
          cases hc1_4 : inB t 0 720 with
          | false =>
            have HX : Hid (plOk c n p q r t = false) := by show _ = _; simp [plOk, spanB, *]
            go_enter Tryz.func6, Tryz.ntmps6
            go_wp2_with (first | (go_at_call 31; refine (isMinute_any _ _).mono ?_; rintro e w' ⟨rfl, rfl⟩) | (go_at_call 32; refine (inside_any _ _ _ _).mono ?_; rintro e w' ⟨rfl, rfl⟩))
            go_ret2
            rw [HX.out]
            exact pl_nil HX.out (by repeat (first | (with_reducible exact Below.refl _ _) | (with_reducible refine below_ov ?_ ?_) | (with_reducible refine Below.setCell ?_ ?_ _) | (with_reducible refine Below.alloc ?_ ?_ _) | (with_reducible refine Below.drew ?_) | (with_reducible refine below_drewN ?_ _) | (refine Below.trans ?_ (Below.mono ‹Below _ _ _› (by first | omega | (simp; done) | (simp; omega)))) | exact Below.refl _ _ | omega | (focus (simp; done)) | (focus (simp; omega))))
          | true =>
            obtain ⟨hc1_4l, hc1_4r⟩ := inB_iff.1 hc1_4
            have hS : spanB p q r t = true := by simp [spanB, *]
            have HS := hide hS
            have hbd := pl_facts (c := c) (n := n) hS
            have hle := pl_least hS
            clear hS
            go_enter Tryz.func6, Tryz.ntmps6
            go_wp2_with (first | (go_at_call 31; refine (isMinute_any _ _).mono ?_; rintro e w' ⟨rfl, rfl⟩) | (go_at_call 32; refine (inside_any _ _ _ _).mono ?_; rintro e w' ⟨rfl, rfl⟩))
            go_loopw [41] (fun i wr => ∃ k : Nat, k ≤ n ∧ i = .int .i64 k ∧ Hid (∀ j, j < k → crP c j = true) ∧ Below w.heap.size w wr) (fun i _ => n - (intOf i).toNat)
            case atStart => exact ⟨0, by omega, rfl, fun j hj => by omega, Below.refl _ _⟩
            case round =>
              obtain ⟨k, hk, rfl, hj, hb⟩ := hrel
              have hzr := hb.size
              by_cases hkn : k < n
              · obtain ⟨blk, off, rfl, h1, h2, h3⟩ := (hA.below hb (by omega)) (by omega)
                have c0 : wr.cell? ⟨blk, off + k, none⟩ = some (.string (c k)) := by simpa [sC] using h3 k 0 hkn (by omega)
                have c1 : wr.cell? ⟨blk, off + (k - 1), none⟩ = some (.string (c (k - 1))) := by simpa [sC] using h3 (k - 1) 0 (by omega) (by omega)
                have l0 : blk < wr.heap.size := by omega
                clear h3 hA
                cases e1 : nameB (c k) with
                | false =>
                  have HX : Hid (plOk c n p q r t = false) := by show _ = _; simp [plOk, crB, allB_false hkn (show crP c k = false by simp [crP, e1])]
                  go_wp2_with (go_at_call 33; refine (isName_any _ _ (hsz k hkn)).mono ?_; rintro e w2 ⟨rfl, hd2⟩; obtain ⟨n2, rfl⟩ := hd2)
                  go_ret2
                  rw [HX.out]
                  exact pl_nil HX.out (by repeat (first | (with_reducible exact Below.refl _ _) | (with_reducible refine below_ov ?_ ?_) | (with_reducible refine Below.setCell ?_ ?_ _) | (with_reducible refine Below.alloc ?_ ?_ _) | (with_reducible refine Below.drew ?_) | (with_reducible refine below_drewN ?_ _) | (refine Below.trans ?_ (Below.mono ‹Below _ _ _› (by first | omega | (simp; done) | (simp; omega)))) | exact Below.refl _ _ | omega | (focus (simp; done)) | (focus (simp; omega))))
                | true =>
                  rcases Nat.eq_zero_or_pos k with h0 | h0
                  · have HG : Hid (crP c k = true) := by show _ = _; simp [crP, riP, h0, e1]; rw [← e1, h0]
                    have d0 : decide (0 < k) = false := by simp; omega
                    have dk : decide (k = 0) = true := by simp; omega
                    clear h0
                    go_wp2_with (go_at_call 33; refine (isName_any _ _ (hsz k hkn)).mono ?_; rintro e w2 ⟨rfl, hd2⟩; obtain ⟨n2, rfl⟩ := hd2)
                    go_roundw
                    case rel => exact ⟨k + 1, by omega, by go_num, upto_snoc hj.out HG.out, (by repeat (first | (with_reducible exact Below.refl _ _) | (with_reducible refine below_ov ?_ ?_) | (with_reducible refine Below.setCell ?_ ?_ _) | (with_reducible refine Below.alloc ?_ ?_ _) | (with_reducible refine Below.drew ?_) | (with_reducible refine below_drewN ?_ _) | (refine Below.trans ?_ (Below.mono ‹Below _ _ _› (by first | omega | (simp; done) | (simp; omega)))) | exact Below.refl _ _ | omega | (focus (simp; done)) | (focus (simp; omega))))⟩
                    case measure => simp [intOf]; omega
                  · have d0 : decide (0 < k) = true := by simp; omega
                    have dk : decide (k = 0) = false := by simp; omega
                    have z1 : IntKind.i64.wrap ((k : Int) - 1) = (k : Int) - 1 := IntWalk.i64_in _ (by omega)
                    have z2 : ((k : Int) - 1).toNat = k - 1 := by omega
                    cases e2 : Op.bytesLess (c (k - 1)).toList (c k).toList with
                    | true =>
                      have HG : Hid (crP c k = true) := by show _ = _; simp [crP, riP, ltS, e1, e2]
                      go_wp2_with (go_at_call 33; refine (isName_any _ _ (hsz k hkn)).mono ?_; rintro e w2 ⟨rfl, hd2⟩; obtain ⟨n2, rfl⟩ := hd2)
                      go_roundw
                      case rel => exact ⟨k + 1, by omega, by go_num, upto_snoc hj.out HG.out, (by repeat (first | (with_reducible exact Below.refl _ _) | (with_reducible refine below_ov ?_ ?_) | (with_reducible refine Below.setCell ?_ ?_ _) | (with_reducible refine Below.alloc ?_ ?_ _) | (with_reducible refine Below.drew ?_) | (with_reducible refine below_drewN ?_ _) | (refine Below.trans ?_ (Below.mono ‹Below _ _ _› (by first | omega | (simp; done) | (simp; omega)))) | exact Below.refl _ _ | omega | (focus (simp; done)) | (focus (simp; omega))))⟩
                      case measure => simp [intOf]; omega
                    | false =>
                      have HX : Hid (plOk c n p q r t = false) := by show _ = _; simp [plOk, crB, allB_false hkn (show crP c k = false by simp [crP, riP, ltS, e1, e2]; omega)]
                      go_wp2_with (go_at_call 33; refine (isName_any _ _ (hsz k hkn)).mono ?_; rintro e w2 ⟨rfl, hd2⟩; obtain ⟨n2, rfl⟩ := hd2)
                      go_ret2
                      rw [HX.out]
                      exact pl_nil HX.out (by repeat (first | (with_reducible exact Below.refl _ _) | (with_reducible refine below_ov ?_ ?_) | (with_reducible refine Below.setCell ?_ ?_ _) | (with_reducible refine Below.alloc ?_ ?_ _) | (with_reducible refine Below.drew ?_) | (with_reducible refine below_drewN ?_ _) | (refine Below.trans ?_ (Below.mono ‹Below _ _ _› (by first | omega | (simp; done) | (simp; omega)))) | exact Below.refl _ _ | omega | (focus (simp; done)) | (focus (simp; omega))))
              · obtain rfl : k = n := by omega
                have hC : crB c k = true := allB_iff.2 hj.out
                cases e3 : inB k (lcN p q r t) 8 with
                | false =>
                  have HX : Hid (plOk c k p q r t = false) := by
                    show _ = _
                    cases e : plOk c k p q r t with
                    | false => rfl
                    | true =>
                      simp only [plOk, Bool.and_eq_true, decide_eq_true_eq] at e
                      rw [← e3]
                      exact (inB_iff.2 ⟨e.1.2, e.1.1.2⟩).symm
                  go_wp2_with (first | (go_at_call 34; refine (leastCrews_any _ _ _ _ _ HS.out).mono ?_; rintro e w' ⟨rfl, rfl⟩) | (go_at_call 32; refine (inside_any _ _ _ _).mono ?_; rintro e w' ⟨rfl, rfl⟩))
                  go_ret2
                  rw [HX.out]
                  exact pl_nil HX.out (by repeat (first | (with_reducible exact Below.refl _ _) | (with_reducible refine below_ov ?_ ?_) | (with_reducible refine Below.setCell ?_ ?_ _) | (with_reducible refine Below.alloc ?_ ?_ _) | (with_reducible refine Below.drew ?_) | (with_reducible refine below_drewN ?_ _) | (refine Below.trans ?_ (Below.mono ‹Below _ _ _› (by first | omega | (simp; done) | (simp; omega)))) | exact Below.refl _ _ | omega | (focus (simp; done)) | (focus (simp; omega))))
                | true =>
                  cases e4 : decide (12 < upF (q - p) r) with
                  | true =>
                    have HX : Hid (plOk c k p q r t = false) := by
                      show _ = _
                      have := of_decide_eq_true e4
                      simp [plOk]
                      intros
                      omega
                    go_wp2_with (first | (go_at_call 34; refine (leastCrews_any _ _ _ _ _ HS.out).mono ?_; rintro e w' ⟨rfl, rfl⟩) | (go_at_call 32; refine (inside_any _ _ _ _).mono ?_; rintro e w' ⟨rfl, rfl⟩) | (go_at_call 35; refine (upTo_any _ _ _ (by omega) (by omega) (by omega) (by omega)).mono ?_; rintro e w' ⟨rfl, rfl⟩))
                    go_ret2
                    rw [HX.out]
                    exact pl_nil HX.out (by repeat (first | (with_reducible exact Below.refl _ _) | (with_reducible refine below_ov ?_ ?_) | (with_reducible refine Below.setCell ?_ ?_ _) | (with_reducible refine Below.alloc ?_ ?_ _) | (with_reducible refine Below.drew ?_) | (with_reducible refine below_drewN ?_ _) | (refine Below.trans ?_ (Below.mono ‹Below _ _ _› (by first | omega | (simp; done) | (simp; omega)))) | exact Below.refl _ _ | omega | (focus (simp; done)) | (focus (simp; omega))))
                  | false =>
                    have h8 := (inB_iff.1 e3).1
                    have h9 := (inB_iff.1 e3).2
                    have h12 := of_decide_eq_false e4
                    have hX : plOk c k p q r t = true := by
                      simp [plOk, HS.out, hC, h8, h9]; omega
                    have HN : Hid (plN c k p q r t = (upF (q - p) r).toNat) := by show _ = _; rw [plN, if_pos hX]
                    have HX := hide hX
                    clear hX hC
                    have hk1 : 1 ≤ k := by omega
                    go_wp2_with (first | (go_at_call 34; refine (leastCrews_any _ _ _ _ _ HS.out).mono ?_; rintro e w' ⟨rfl, rfl⟩) | (go_at_call 32; refine (inside_any _ _ _ _).mono ?_; rintro e w' ⟨rfl, rfl⟩) | (go_at_call 35; refine (upTo_any _ _ _ (by omega) (by omega) (by omega) (by omega)).mono ?_; rintro e w' ⟨rfl, rfl⟩))
                    have hb0 := hb
                    go_loopw [14, 15] (fun o i wr => ∃ (j : Nat) (B : Option Addr) (cp : Nat), j ≤ (upF (q - p) r).toNat ∧ i = .int .i64 (p + j * r) ∧ o = .slice B j cp ∧ Hid (wr.ownsRow w.heap.size 38 3 (.slice B j cp) j (plV c k p q r j)) ∧ Below w.heap.size w wr) (fun _ i _ => (q - intOf i).toNat)
                    case atStart => exact ⟨0, none, 0, by omega, by go_num, rfl, World.ownsRow_nil _ _ _ _, hb0⟩
                    case round =>
                      clear hb hzr hb0
                      obtain ⟨j, B, cp, hj2, rfl, rfl, hown, hb⟩ := hrel
                      have hzr := hb.size
                      have hat := pl_at (k := j) HS.out
                      by_cases hjn : j < (upF (q - p) r).toNat
                      · have dq : decide (p + j * r < q) = true := by rw [hat]; exact decide_eq_true hjn
                        have hq := of_decide_eq_true dq
                        obtain ⟨blk, off, rfl, h1, h2, h3⟩ := (hA.below hb (by omega)) (by omega)
                        have hm : j % k < k := Nat.mod_lt _ (by omega)
                        have c0 : wr.cell? ⟨blk, off + j % k, none⟩ = some (.string (c (j % k))) := by simpa [sC] using h3 (j % k) 0 hm (by omega)
                        have l0 : blk < wr.heap.size := by omega
                        have hk02 : ¬ (k : Int) = 0 := by omega
                        have i0 : (0 : Int) ≤ ((j % k : Nat) : Int) := by omega
                        have i1 : ((j % k : Nat) : Int) < (k : Int) := by omega
                        have hjr : (0 : Int) ≤ (j : Int) * r := Int.mul_nonneg (by omega) (by omega)
                        obtain ⟨P, hP⟩ : ∃ P : Int, P = p + j * r := ⟨_, rfl⟩
                        have hPq : P < q := by omega
                        have HPP := hide hP
                        rw [show p + (j : Int) * r = P from hP.symm]
                        have HL : Hid (plV c k p q r (j + 1) = plV c k p q r j ++ [.string (c (j % k)), .int .i64 P, .int .i64 (min (P + r) q)]) := by show _ = _; rw [plV_snoc, plC, plA, plB, ← hP]
                        have HNX : Hid (P + r = p + ((j + 1 : Nat) : Int) * r) := by show _ = _; rw [hP, Int.natCast_succ, Int.add_mul, Int.one_mul]; omega
                        have hP0 : 0 ≤ P := by omega
                        clear hP hjr hat dq hq
                        clear h3 hA
                        by_cases hmn : q < P + r
                        · have HM : Hid (min (P + r) q = q) := by show _ = _; omega
                          rw [HM.out] at HL
                          go_wp2_with (at_builtin; refine wpList_append_own _ rfl _ _ 27 rfl w.heap.size 38 ii (.agg #[.string ⟨#[]⟩, .int .i64 0, .int .i64 0]) 3 32 Tryz.underlying27 hii iz0 iz1 iz2 rfl (by decide) _ _ _ rfl (hown.out.alloc _) ⟨wr.heap.size, 0, none⟩ 1 1 [.string (c (j % k)), .int .i64 P, .int .i64 (q)] rfl rfl (by intro i u hu; match i, hu with | 0, hu => (simp at hu; subst hu; simp [go_sem, Addr.add]) | 1, hu => (simp at hu; subst hu; simp [go_sem, Addr.add]) | 2, hu => (simp at hu; subst hu; simp [go_sem, Addr.add])) three_one (by unfold maxLen; omega) (by omega) (by simp; omega) ?_)
                          intro v' w5 hown5 hg5 _
                          have hb5 : Below w.heap.size w w5 := (hb.alloc (by omega) _).grown hg5 (by simp; omega) (fun g hg => (hown.out.lt g hg).1)
                          have hz5 := hb5.size
                          obtain ⟨B2, cp2, rfl⟩ := row_form hown5
                          have hown6 := hide hown5
                          clear hown5 hg5 hown
                          go_wp2_with fail
                          go_roundw
                          case rel => exact ⟨j + 1, B2, cp2, by omega, by rw [← HNX.out], rfl, by rw [HL.out]; exact hown6, hb5⟩
                          case measure => simp [intOf]; omega
                        · have HM : Hid (min (P + r) q = P + r) := by show _ = _; omega
                          rw [HM.out] at HL
                          go_wp2_with (at_builtin; refine wpList_append_own _ rfl _ _ 27 rfl w.heap.size 38 ii (.agg #[.string ⟨#[]⟩, .int .i64 0, .int .i64 0]) 3 32 Tryz.underlying27 hii iz0 iz1 iz2 rfl (by decide) _ _ _ rfl (hown.out.alloc _) ⟨wr.heap.size, 0, none⟩ 1 1 [.string (c (j % k)), .int .i64 P, .int .i64 (P + r)] rfl rfl (by intro i u hu; match i, hu with | 0, hu => (simp at hu; subst hu; simp [go_sem, Addr.add]) | 1, hu => (simp at hu; subst hu; simp [go_sem, Addr.add]) | 2, hu => (simp at hu; subst hu; simp [go_sem, Addr.add])) three_one (by unfold maxLen; omega) (by omega) (by simp; omega) ?_)
                          intro v' w5 hown5 hg5 _
                          have hb5 : Below w.heap.size w w5 := (hb.alloc (by omega) _).grown hg5 (by simp; omega) (fun g hg => (hown.out.lt g hg).1)
                          have hz5 := hb5.size
                          obtain ⟨B2, cp2, rfl⟩ := row_form hown5
                          have hown6 := hide hown5
                          clear hown5 hg5 hown
                          go_wp2_with fail
                          go_roundw
                          case rel => exact ⟨j + 1, B2, cp2, by omega, by rw [← HNX.out], rfl, by rw [HL.out]; exact hown6, hb5⟩
                          case measure => simp [intOf]; omega
                      · have dq : decide (p + j * r < q) = false := by rw [hat]; exact decide_eq_false hjn
                        have hj3 : Hid (plN c k p q r t = j) := by show _ = _; rw [HN.out]; omega
                        go_wp2_with fail
                        go_ret2
                        rw [HX.out]
                        refine ⟨_, rfl, ?_, hb⟩
                        rw [hj3.out]
                        exact own_row hown.out

set_option maxRecDepth 100000 in
set_option maxHeartbeats 3200000 in
theorem ReliefPlan_spec (c : Nat → ByteArray) (n : Nat) (p q r t : Int) (lo hi : Nat) (v : Value) (w : World) (hv : Sl w lo hi 1 v n (sC c)) (hhi : hi ≤ w.heap.size) (hf : pfits c n) :
    Calls Tryz.prog 7 #[v, .int .i64 p, .int .i64 q, .int .i64 r, .int .i64 t] w (PlRes c n p q r t (plOk c n p q r t) w) := by
  obtain ⟨A, cap, rfl, hcap, hA⟩ := hv.open_
  obtain ⟨hn, hsz⟩ := hf
  obtain ⟨ii, hii, iz0, iz1, iz2⟩ := info_parts infoPerP
  cases hc2_0 : spanB p q r t with
  | false =>
    have HX : Hid (plOk c n p q r t = false) := by
      show _ = _
      cases e : plOk c n p q r t with
      | false => rfl
      | true =>
        simp only [plOk, crB_eq, Bool.and_eq_true, decide_eq_true_eq] at e
        simp_all
        try omega
    go_enter Tryz.func7, Tryz.ntmps7
    go_wp2_with (first | (go_at_call 36; refine (rfSpan_any _ _ _ _ _).mono ?_; rintro e w' ⟨rfl, rfl⟩) | (go_at_call 37; refine (dsNames_any c n lo hi _ _ hv hhi hn).mono ?_; rintro e w1 ⟨rfl, hb1⟩; have hz1 := hb1.size; (try (simp at hz1)); obtain ⟨hcw1, hfw1⟩ := bcell hb1; (try (have hy1 : w.heap.size < w1.heap.size := by omega)); (try (have hyy1 : w.heap.size + 1 < w1.heap.size := by omega)); (try (have hyyy1 : w.heap.size + 1 + 1 < w1.heap.size := by omega))))
    go_ret2
    rw [HX.out]
    exact pl_nil HX.out (by repeat (first | (with_reducible exact Below.refl _ _) | (with_reducible refine below_ov ?_ ?_) | (with_reducible refine Below.setCell ?_ ?_ _) | (with_reducible refine Below.alloc ?_ ?_ _) | (with_reducible refine Below.drew ?_) | (with_reducible refine below_drewN ?_ _) | (refine Below.trans ?_ (Below.mono ‹Below _ _ _› (by first | omega | (simp; done) | (simp; omega)))) | exact Below.refl _ _ | omega | (focus (simp; done)) | (focus (simp; omega))))
  | true =>
    cases hc2_1 : decide (n ≤ 8) with
    | false =>
      have hc2_1l := of_decide_eq_false hc2_1
      have HX : Hid (plOk c n p q r t = false) := by
        show _ = _
        cases e : plOk c n p q r t with
        | false => rfl
        | true =>
          simp only [plOk, crB_eq, Bool.and_eq_true, decide_eq_true_eq] at e
          simp_all
          try omega
      go_enter Tryz.func7, Tryz.ntmps7
      go_wp2_with (first | (go_at_call 36; refine (rfSpan_any _ _ _ _ _).mono ?_; rintro e w' ⟨rfl, rfl⟩) | (go_at_call 37; refine (dsNames_any c n lo hi _ _ hv hhi hn).mono ?_; rintro e w1 ⟨rfl, hb1⟩; have hz1 := hb1.size; (try (simp at hz1)); obtain ⟨hcw1, hfw1⟩ := bcell hb1; (try (have hy1 : w.heap.size < w1.heap.size := by omega)); (try (have hyy1 : w.heap.size + 1 < w1.heap.size := by omega)); (try (have hyyy1 : w.heap.size + 1 + 1 < w1.heap.size := by omega))))
      go_ret2
      rw [HX.out]
      exact pl_nil HX.out (by repeat (first | (with_reducible exact Below.refl _ _) | (with_reducible refine below_ov ?_ ?_) | (with_reducible refine Below.setCell ?_ ?_ _) | (with_reducible refine Below.alloc ?_ ?_ _) | (with_reducible refine Below.drew ?_) | (with_reducible refine below_drewN ?_ _) | (refine Below.trans ?_ (Below.mono ‹Below _ _ _› (by first | omega | (simp; done) | (simp; omega)))) | exact Below.refl _ _ | omega | (focus (simp; done)) | (focus (simp; omega))))
    | true =>
      have hc2_1l := of_decide_eq_true hc2_1
      cases hc2_2 : riB c n with
      | false =>
        have HX : Hid (plOk c n p q r t = false) := by
          show _ = _
          cases e : plOk c n p q r t with
          | false => rfl
          | true =>
            simp only [plOk, crB_eq, Bool.and_eq_true, decide_eq_true_eq] at e
            simp_all
            try omega
        go_enter Tryz.func7, Tryz.ntmps7
        go_wp2_with (first | (go_at_call 36; refine (rfSpan_any _ _ _ _ _).mono ?_; rintro e w' ⟨rfl, rfl⟩) | (go_at_call 37; refine (dsNames_any c n lo hi _ _ hv hhi hn).mono ?_; rintro e w1 ⟨rfl, hb1⟩; have hz1 := hb1.size; (try (simp at hz1)); obtain ⟨hcw1, hfw1⟩ := bcell hb1; (try (have hy1 : w.heap.size < w1.heap.size := by omega)); (try (have hyy1 : w.heap.size + 1 < w1.heap.size := by omega)); (try (have hyyy1 : w.heap.size + 1 + 1 < w1.heap.size := by omega))))
        go_ret2
        rw [HX.out]
        exact pl_nil HX.out (by repeat (first | (with_reducible exact Below.refl _ _) | (with_reducible refine below_ov ?_ ?_) | (with_reducible refine Below.setCell ?_ ?_ _) | (with_reducible refine Below.alloc ?_ ?_ _) | (with_reducible refine Below.drew ?_) | (with_reducible refine below_drewN ?_ _) | (refine Below.trans ?_ (Below.mono ‹Below _ _ _› (by first | omega | (simp; done) | (simp; omega)))) | exact Below.refl _ _ | omega | (focus (simp; done)) | (focus (simp; omega))))
      | true =>
        have hS : spanB p q r t = true := by assumption
        have HS := hide hS
        have hR : riB c n = true := by assumption
        have HR := hide hR
        have hbd := pl_facts (c := c) (n := n) hS
        have hle := pl_least hS
        go_enter Tryz.func7, Tryz.ntmps7
        go_wp2_with (first | (go_at_call 36; refine (rfSpan_any _ _ _ _ _).mono ?_; rintro e w' ⟨rfl, rfl⟩) | (go_at_call 37; refine (dsNames_any c n lo hi _ _ hv hhi hn).mono ?_; rintro e w1 ⟨rfl, hb1⟩; have hz1 := hb1.size; (try (simp at hz1)); obtain ⟨hcw1, hfw1⟩ := bcell hb1; (try (have hy1 : w.heap.size < w1.heap.size := by omega)); (try (have hyy1 : w.heap.size + 1 < w1.heap.size := by omega)); (try (have hyyy1 : w.heap.size + 1 + 1 < w1.heap.size := by omega))))
        clear hS hR
        have hbS : Below w.heap.size w w1 := (by repeat (first | (with_reducible exact Below.refl _ _) | (with_reducible refine below_ov ?_ ?_) | (with_reducible refine Below.setCell ?_ ?_ _) | (with_reducible refine Below.alloc ?_ ?_ _) | (with_reducible refine Below.drew ?_) | (with_reducible refine below_drewN ?_ _) | (refine Below.trans ?_ (Below.mono ‹Below _ _ _› (by first | omega | (simp; done) | (simp; omega)))) | exact Below.refl _ _ | omega | (focus (simp; done)) | (focus (simp; omega))))
        go_loopw [37] (fun i wr => ∃ k : Nat, k ≤ n ∧ i = .int .i64 k ∧ Hid (∀ j, j < k → nameB (c j) = true) ∧ Below w.heap.size w wr) (fun i _ => n - (intOf i).toNat)
        case atStart => exact ⟨0, by omega, rfl, fun j hj => by omega, hbS⟩
        case round =>
          clear hbS
          obtain ⟨k, hk, rfl, hj, hb⟩ := hrel
          have hzr := hb.size
          by_cases hkn : k < n
          · obtain ⟨blk, off, rfl, h1, h2, h3⟩ := (hA.below hb (by omega)) (by omega)
            have c0 : wr.cell? ⟨blk, off + k, none⟩ = some (.string (c k)) := by simpa [sC] using h3 k 0 hkn (by omega)
            have l0 : blk < wr.heap.size := by omega
            clear h3 hA
            cases e1 : nameB (c k) with
            | false =>
              have HX : Hid (plOk c n p q r t = false) := by show _ = _; simp [plOk, crB, allB_false hkn (show crP c k = false by simp [crP, e1])]
              go_wp2_with (go_at_call 38; refine (apName_any _ _ (hsz k hkn)).mono ?_; rintro e w2 ⟨rfl, hd2⟩; obtain ⟨n2, rfl⟩ := hd2)
              go_ret2
              rw [HX.out]
              exact pl_nil HX.out (by repeat (first | (with_reducible exact Below.refl _ _) | (with_reducible refine below_ov ?_ ?_) | (with_reducible refine Below.setCell ?_ ?_ _) | (with_reducible refine Below.alloc ?_ ?_ _) | (with_reducible refine Below.drew ?_) | (with_reducible refine below_drewN ?_ _) | (refine Below.trans ?_ (Below.mono ‹Below _ _ _› (by first | omega | (simp; done) | (simp; omega)))) | exact Below.refl _ _ | omega | (focus (simp; done)) | (focus (simp; omega))))
            | true =>
              have HG : Hid (nameB (c k) = true) := hide e1
              go_wp2_with (go_at_call 38; refine (apName_any _ _ (hsz k hkn)).mono ?_; rintro e w2 ⟨rfl, hd2⟩; obtain ⟨n2, rfl⟩ := hd2)
              go_roundw
              case rel => exact ⟨k + 1, by omega, by go_num, upto_snoc (p := fun i => nameB (c i)) hj.out HG.out, (by repeat (first | (with_reducible exact Below.refl _ _) | (with_reducible refine below_ov ?_ ?_) | (with_reducible refine Below.setCell ?_ ?_ _) | (with_reducible refine Below.alloc ?_ ?_ _) | (with_reducible refine Below.drew ?_) | (with_reducible refine below_drewN ?_ _) | (refine Below.trans ?_ (Below.mono ‹Below _ _ _› (by first | omega | (simp; done) | (simp; omega)))) | exact Below.refl _ _ | omega | (focus (simp; done)) | (focus (simp; omega))))⟩
              case measure => simp [intOf]; omega
          · obtain rfl : k = n := by omega
            have hC : crB c k = true := by rw [crB_eq, HR.out]; exact allB_iff.2 hj.out
            cases e3 : decide ((k : Int) < lcN p q r t) with
            | true =>
              have HX : Hid (plOk c k p q r t = false) := by
                show _ = _
                have := of_decide_eq_true e3
                simp [plOk]
                intros
                omega
              go_wp2_with (first | (go_at_call 39; refine (rfNeeded_any _ _ _ _ _ HS.out).mono ?_; rintro e w' ⟨rfl, rfl⟩))
              go_ret2
              rw [HX.out]
              exact pl_nil HX.out (by repeat (first | (with_reducible exact Below.refl _ _) | (with_reducible refine below_ov ?_ ?_) | (with_reducible refine Below.setCell ?_ ?_ _) | (with_reducible refine Below.alloc ?_ ?_ _) | (with_reducible refine Below.drew ?_) | (with_reducible refine below_drewN ?_ _) | (refine Below.trans ?_ (Below.mono ‹Below _ _ _› (by first | omega | (simp; done) | (simp; omega)))) | exact Below.refl _ _ | omega | (focus (simp; done)) | (focus (simp; omega))))
            | false =>
              cases e4 : decide (12 < upF (q - p) r) with
              | true =>
                have HX : Hid (plOk c k p q r t = false) := by
                  show _ = _
                  have := of_decide_eq_true e4
                  simp [plOk]
                  intros
                  omega
                go_wp2_with (first | (go_at_call 39; refine (rfNeeded_any _ _ _ _ _ HS.out).mono ?_; rintro e w' ⟨rfl, rfl⟩))
                go_ret2
                rw [HX.out]
                exact pl_nil HX.out (by repeat (first | (with_reducible exact Below.refl _ _) | (with_reducible refine below_ov ?_ ?_) | (with_reducible refine Below.setCell ?_ ?_ _) | (with_reducible refine Below.alloc ?_ ?_ _) | (with_reducible refine Below.drew ?_) | (with_reducible refine below_drewN ?_ _) | (refine Below.trans ?_ (Below.mono ‹Below _ _ _› (by first | omega | (simp; done) | (simp; omega)))) | exact Below.refl _ _ | omega | (focus (simp; done)) | (focus (simp; omega))))
              | false =>
                have h8 := of_decide_eq_false e3
                have h9 : (k : Int) ≤ 8 := by omega
                have h12 := of_decide_eq_false e4
                have hX : plOk c k p q r t = true := by
                  simp [plOk, HS.out, hC, h9]; omega
                have HN : Hid (plN c k p q r t = (upF (q - p) r).toNat) := by show _ = _; rw [plN, if_pos hX]
                have HX := hide hX
                clear hX hC
                have hk1 : 1 ≤ k := by omega
                go_wp2_with (first | (go_at_call 39; refine (rfNeeded_any _ _ _ _ _ HS.out).mono ?_; rintro e w' ⟨rfl, rfl⟩))
                have hb0 := hb
                go_loopw [16, 17, 18] (fun o i _ wr => ∃ (j : Nat) (B : Option Addr) (cp : Nat), j ≤ (upF (q - p) r).toNat ∧ i = .int .i64 j ∧ o = .slice B j cp ∧ Hid (wr.ownsRow w.heap.size 38 3 (.slice B j cp) j (plV c k p q r j)) ∧ Below w.heap.size w wr) (fun _ i _ _ => (upF (q - p) r - intOf i).toNat)
                case atStart => exact ⟨0, none, 0, by omega, rfl, rfl, World.ownsRow_nil _ _ _ _, hb0⟩
                case round =>
                  clear hb hzr hb0
                  obtain ⟨j, B, cp, hj2, rfl, rfl, hown, hb⟩ := hrel
                  have hzr := hb.size
                  have hat := pl_at (k := j) HS.out
                  by_cases hjn : j < (upF (q - p) r).toNat
                  · have dq : decide (p + j * r < q) = true := by rw [hat]; exact decide_eq_true hjn
                    have hq := of_decide_eq_true dq
                    obtain ⟨blk, off, rfl, h1, h2, h3⟩ := (hA.below hb (by omega)) (by omega)
                    have hm : j % k < k := Nat.mod_lt _ (by omega)
                    have c0 : wr.cell? ⟨blk, off + j % k, none⟩ = some (.string (c (j % k))) := by simpa [sC] using h3 (j % k) 0 hm (by omega)
                    have l0 : blk < w.heap.size := by omega
                    have hk02 : ¬ (k : Int) = 0 := by omega
                    have z1 : Int.tmod (j : Int) (k : Int) = ((j % k : Nat) : Int) := by rw [Int.tmod_eq_emod_of_nonneg (by omega)]; rfl
                    have HL0 : plV c k p q r (j + 1) = plV c k p q r j ++ [.string (c (j % k)), .int .i64 (plA p r j), .int .i64 (plB p q r j)] := plV_snoc _ _ _ _ _ _
                    obtain ⟨m, hme⟩ : ∃ m, j % k = m := ⟨_, rfl⟩
                    rw [hme] at z1 hm c0 HL0
                    have i0 : (0 : Int) ≤ (m : Int) := by omega
                    have i1 : (m : Int) < (k : Int) := by omega
                    have hjr : (0 : Int) ≤ (j : Int) * r := Int.mul_nonneg (by omega) (by omega)
                    have hjr2 : (j : Int) * r ≤ 10000 := by omega
                    have z3 : IntKind.i64.wrap ((j : Int) * r) = (j : Int) * r := IntWalk.i64_in _ (by omega)
                    have z4 : IntKind.i64.wrap (p + (j : Int) * r + r) = p + (j : Int) * r + r := IntWalk.i64_in _ (by omega)
                    have HL : Hid (plV c k p q r (j + 1) = plV c k p q r j ++ [.string (c m), .int .i64 (p + (j : Int) * r), .int .i64 (min (p + (j : Int) * r + r) q)]) := by show _ = _; rw [HL0, plA, plB]
                    have hji : (j : Int) < upF (q - p) r := by omega
                    clear hat dq hq h3 hA HL0 hme
                    go_wp2_with fail
                    refine wp_region_mix [(0, true), (1, true), (2, true), (3, true), (4, true), (5, true), (6, true), (7, true), (8, true), (9, true), (10, true), (11, true), (12, true), (13, false), (14, false), (15, false), (16, false), (17, true)] (fun w' => Below w.heap.size wr.drew w') (by kernel_rfl) (by kernel_rfl) (by kernel_rfl) (by kernel_rfl) (Below.refl _ _) ?_
                    refine mix_look _ _ rfl rfl (fun w' _ => BigFrame.run_move _ rfl w') ?_
                    go_simp
                    refine mix_look _ _ rfl rfl (fun w' _ => BigFrame.run_move _ rfl w') ?_
                    go_simp
                    refine mix_look _ _ rfl rfl (fun w' _ => BigFrame.run_move _ rfl w') ?_
                    go_simp
                    refine mix_look _ _ rfl rfl (fun w' _ => BigFrame.run_move _ rfl w') ?_
                    go_simp
                    refine mix_look _ (.int .i64 (k : Int)) rfl rfl (fun w' _ => (by go_simp)) ?_
                    go_simp
                    refine mix_look _ (.int .i64 (m : Int)) rfl rfl (fun w' _ => (by go_simp; omega)) ?_
                    go_simp
                    refine mix_look _ (.pointer (some ⟨blk, off + m, none⟩)) rfl rfl (fun w' _ => (by go_simp)) ?_
                    go_simp
                    refine mix_look _ (.string (c m)) rfl rfl (fun w' hw' => (by have c1 := (hw'.cell (p := ⟨blk, off + m, none⟩) l0).trans c0; go_simp)) ?_
                    go_simp
                    refine mix_look _ _ rfl rfl (fun w' _ => BigFrame.run_move _ rfl w') ?_
                    go_simp
                    refine mix_look _ _ rfl rfl (fun w' _ => BigFrame.run_move _ rfl w') ?_
                    go_simp
                    refine mix_look _ _ rfl rfl (fun w' _ => BigFrame.run_move _ rfl w') ?_
                    go_simp
                    refine mix_look _ _ rfl rfl (fun w' _ => BigFrame.run_move _ rfl w') ?_
                    go_simp
                    refine mix_look _ (.int .i64 (p + (j : Int) * r + r)) rfl rfl (fun w' _ => (by go_simp)) ?_
                    go_simp
                    refine mix_call _ 40 #[.int .i64 q, .int .i64 (p + (j : Int) * r + r)] rfl rfl (by go_simp) ?_
                    refine (l1Least_any _ _ _).mono ?_
                    rintro e w6 ⟨rfl, rfl⟩
                    refine ⟨_, rfl, Below.refl _ _, ?_⟩
                    go_simp
                    refine mix_value _ (.agg #[.string (c m), .int .i64 (p + (j : Int) * r), .int .i64 (min q (p + (j : Int) * r + r))]) _ rfl rfl (by go_simp) (Below.refl _ _) ?_
                    go_simp
                    refine mix_value _ (.slice (some ⟨wr.drew.heap.size, 0, none⟩) 1 1) (wr.drew.alloc (.cells #[.string (c m), .int .i64 (p + (j : Int) * r), .int .i64 (min q (p + (j : Int) * r + r))] 38)) rfl rfl (by go_simp) ((Below.refl _ _).alloc (by simp; omega) _) ?_
                    go_simp
                    obtain ⟨v7, w7, q1, q2, q3, _⟩ := run_append_own (P := Tryz.prog) (wr.drew.alloc (.cells #[.string (c m), .int .i64 (p + (j : Int) * r), .int .i64 (min q (p + (j : Int) * r + r))] 38)) w.heap.size 27 27 38 ii (.agg #[.string ⟨#[]⟩, .int .i64 0, .int .i64 0]) 3 32 Tryz.underlying27 hii iz0 iz1 iz2 rfl (by decide) _ _ _ ((row_below hown.out (Below.drew (Below.refl _ _)) (Nat.le_refl _)).alloc _) ⟨wr.drew.heap.size, 0, none⟩ 1 1 [.string (c m), .int .i64 (p + (j : Int) * r), .int .i64 (min q (p + (j : Int) * r + r))] rfl (fun i u hu => by
                      match i, hu with
                      | 0, hu => simp at hu; subst hu; simp [go_sem, Addr.add]
                      | 1, hu => simp at hu; subst hu; simp [go_sem, Addr.add]
                      | 2, hu => simp at hu; subst hu; simp [go_sem, Addr.add]) three_one (by unfold maxLen; omega) (by omega) (by simp; omega)
                    have hb5 : Below w.heap.size w w7 := ((Below.drew hb).alloc (by simp; omega) _).grown q3 (by simp; omega) (fun g hg => (hown.out.lt g hg).1)
                    have hb6 : Below w.heap.size wr.drew w7 := ((Below.refl _ _).alloc (by simp; omega) _).grown q3 (by simp; omega) (fun g hg => (hown.out.lt g hg).1)
                    refine mix_value _ v7 w7 rfl rfl (run_op_append _ _ 27 rfl rfl rfl q1) hb6 ?_
                    have hz5 := hb5.size
                    obtain ⟨B2, cp2, rfl⟩ := row_form q2
                    go_simp
                    rw [Int.min_comm] at q2
                    have hown6 := hide q2
                    clear q2 q3 hown
                    refine mix_look _ _ rfl rfl (fun w' _ => BigFrame.run_assign _ rfl w') ?_
                    go_simp
                    refine wpMix_nil ?_
                    go_wp2_with fail
                    go_roundw
                    case rel => exact ⟨j + 1, B2, cp2, by omega, by go_num, rfl, by rw [HL.out]; exact hown6, hb5⟩
                    case measure => simp [intOf]; omega
                  · have hji : (j : Int) = upF (q - p) r := by omega
                    have dq : decide ((j : Int) < upF (q - p) r) = false := decide_eq_false (by omega)
                    have hj3 : Hid (plN c k p q r t = j) := by show _ = _; rw [HN.out]; omega
                    go_wp2_with fail
                    go_ret2
                    rw [HX.out]
                    refine ⟨_, rfl, ?_, hb⟩
                    rw [hj3.out]
                    exact own_row hown.out

end Go.Proofs.YtnmmkechkcfjnaaGreatDoor

/-
  General words on rows of the call's own: cells set in a row, a row that is one longer, an element put between (taken together by gen_ins3.py).-/
namespace Go.Proofs.YtnmmkechkcfjnaaGreatDoor
set_option linter.unusedVariables false
set_option linter.unusedSimpArgs false
open Go.RowKit

section
variable {w w' w'' : World} {lo hi lo' hi' E sz n m K cap g : Nat} {v u : Value} {cc cc' : Nat → Value} {c : Nat → Nat → Value} {xs : List Value}
theorem OwnL.set (h : OwnL w lo hi E sz (.slice (some ⟨g, 0, none⟩) n cap) n K cc) {o : Nat} (ho : o < n * sz) (u : Value) : OwnL (w.setCell ⟨g, o, none⟩ u) lo hi E sz (.slice (some ⟨g, 0, none⟩) n cap) n K (fun p => if p = o then u else cc p) := by
  rcases h with ⟨rfl, _⟩ | ⟨g', cap', xs, h0, a1, a2, a3, a4, a5⟩
  · omega
  · injection h0 with e1 e2 e3
    injection e1 with e1
    injection e1 with e1
    subst e1 e3
    refine .inr ⟨g, cap, _, rfl, a1, a2, a3, (a4.stored o u).1, fun p hp hp' => ?_⟩
    have hl := a4.1
    by_cases h1 : p = o
    · subst h1
      simp only [if_true]
      exact List.getElem?_set_self (by omega)
    · simp only [h1, if_false]
      rw [List.getElem?_set_ne (by omega)]
      exact a5 p hp hp'
theorem Own.lf (h : Own w lo hi E sz v n n c) (hsz : 0 < sz) : OwnL w lo hi E sz v n (n * sz) (fun o => c (o / sz) (o % sz)) := by
  obtain ⟨xs, ⟨hl, h1⟩, h2, h3⟩ := h
  rcases h1 with ⟨rfl, rfl⟩ | ⟨g, cap, cur, rfl, hg, hh, hnc, r⟩
  · exact .inl ⟨rfl, none, 0, rfl⟩
  · refine .inr ⟨g, cap, xs, rfl, hg, h2 g rfl, hnc, ⟨hl, .inr ⟨g, cap, cur, rfl, hg, hh, hnc, r⟩⟩, fun o h _ => ?_⟩
    have h5 := h3 (o / sz) (o % sz) ((Nat.div_lt_iff_lt_mul hsz).2 h) (Nat.mod_lt _ hsz)
    rw [Nat.div_add_mod'] at h5
    exact h5
theorem OwnL.keep1 (h : OwnL w g (g + 1) E sz v n K cc) (hk : w'.heap[g]? = w.heap[g]?) : OwnL w' g (g + 1) E sz v n K cc := h.keep fun b h1 h2 => by
  obtain rfl : b = g := by omega
  exact hk
theorem OwnL.setCells : ∀ {vs : List Value} {w : World} {o : Nat} {cc : Nat → Value}, OwnL w lo hi E sz (.slice (some ⟨g, 0, none⟩) n cap) n K cc → o + vs.length ≤ n * sz →
    OwnL (w.setCells g o vs) lo hi E sz (.slice (some ⟨g, 0, none⟩) n cap) n K (fun p => if o ≤ p ∧ p < o + vs.length then vs.getD (p - o) (.bool false) else cc p)
  | [], w, o, cc, h, _ => h.congr fun p _ => by
    have : ¬ (o ≤ p ∧ p < o + 0) := by omega
    show _ = if o ≤ p ∧ p < o + 0 then _ else _
    rw [if_neg this]
  | v :: r, w, o, cc, h, hl => by
    simp only [List.length_cons] at hl
    refine (OwnL.setCells (vs := r) (h.set (o := o) (by omega) v) (by omega)).congr fun p _ => ?_
    simp only [List.length_cons]
    rcases Nat.lt_trichotomy p o with h1 | h1 | h1
    · have a1 : ¬ (o + 1 ≤ p ∧ p < o + 1 + r.length) := by omega
      have a2 : ¬ (o ≤ p ∧ p < o + (r.length + 1)) := by omega
      have a3 : ¬ p = o := by omega
      simp only [a1, a2, a3, if_false]
    · subst h1
      have a1 : ¬ (p + 1 ≤ p ∧ p < p + 1 + r.length) := by omega
      have a2 : p ≤ p ∧ p < p + (r.length + 1) := by omega
      simp only [a1, a2, if_false, if_true, Nat.sub_self]
      simp
    · by_cases h2 : p < o + 1 + r.length
      · have a1 : o + 1 ≤ p ∧ p < o + 1 + r.length := by omega
        have a2 : o ≤ p ∧ p < o + (r.length + 1) := by omega
        simp only [a1, a2, if_true, and_self]
        obtain ⟨q, rfl⟩ : ∃ q, p = o + 1 + q := ⟨p - (o + 1), by omega⟩
        rw [show o + 1 + q - (o + 1) = q by omega, show o + 1 + q - o = q + 1 by omega]
        simp
      · have a1 : ¬ (o + 1 ≤ p ∧ p < o + 1 + r.length) := by omega
        have a2 : ¬ (o ≤ p ∧ p < o + (r.length + 1)) := by omega
        have a3 : ¬ p = o := by omega
        simp only [a1, a2, a3, if_false]
theorem OwnL.cap_le (h : OwnL w lo hi E sz (.slice (some ⟨g, 0, none⟩) n cap) n K cc) (hn : 0 < n) : n ≤ cap ∧ cap ≤ maxLen := by
  rcases h with ⟨h0, _⟩ | ⟨g', cap', xs, h0, a1, a2, a3, ⟨hl, a4⟩, a5⟩
  · omega
  · injection h0 with e1 e2 e3
    subst e3
    rcases a4 with ⟨a4, _⟩ | ⟨x, y, cur, he, hb, hh, hnc, hcm, hcs, ht⟩
    · cases a4
    · injection he with _ _ e3
      subst e3
      exact ⟨a3, hcm⟩
theorem Only.setCells {g : Nat} : ∀ {vs : List Value} {w' : World} {o : Nat}, Only g (g + 1) w w' → Only g (g + 1) w (w'.setCells g o vs)
  | [], _, _, h => h
  | v :: r, w', o, h => Only.setCells (vs := r) (h.setCell (a := ⟨g, o, none⟩) (Nat.le_refl _) (Nat.lt_succ_self _) v)
theorem OwnL.rowL (h : OwnL w lo hi E sz v n (n * sz) (fun o => c (o / sz) (o % sz))) (hn : 0 < n) (hsz : 0 < sz) : w.ownsRow lo E sz v n (rowL c sz n) := by
  rcases h with ⟨h0, _⟩ | ⟨g, cap, xs, rfl, h1, h2, h3, h4, h5⟩
  · omega
  · have : xs = Go.Proofs.YtnmmkechkcfjnaaGreatDoor.rowL c sz n := by
      apply List.ext_getElem?
      intro o
      rcases Nat.lt_or_ge o (n * sz) with ho | ho
      · rw [h5 o ho ho]
        have e2 := rowL_get c sz ((Nat.div_lt_iff_lt_mul hsz).2 ho) (Nat.mod_lt o hsz)
        rw [Nat.div_add_mod'] at e2
        exact e2.symm
      · rw [List.getElem?_eq_none (by rw [h4.1]; omega), List.getElem?_eq_none (by rw [rowL_len]; omega)]
    rw [← this]
    exact h4
theorem row_at (h : w.ownsRow lo E sz v n (rowL c sz n)) (hsz : 0 < sz) (hg : v.ownBlock = some g) : OwnL w g (g + 1) E sz v n (n * sz) (fun o => c (o / sz) (o % sz)) := by
  have h1 := (own_row h).lf hsz
  rcases h1 with h1 | ⟨g', cap, ys, rfl, a1, a2, a3, ⟨a4, a5⟩, a6⟩
  · exact .inl h1
  · injection hg with hg
    have hg : g' = g := hg
    subst hg
    rcases a5 with ⟨a5, _⟩ | ⟨x, y, cur, he, hb, hh, r⟩
    · cases a5
    · injection he with e1 e2 e3
      injection e1 with e1
      injection e1 with e1
      subst e1 e3
      exact .inr ⟨g', cap, ys, rfl, Nat.le_refl _, Nat.lt_succ_self _, a3, ⟨a4, .inr ⟨g', cap, cur, rfl, Nat.le_refl _, hh, r⟩⟩, a6⟩
theorem OwnL.ext1 (h : OwnL w lo hi E sz (.slice (some ⟨g, 0, none⟩) n cap) n K cc) (hn : 0 < n) (hc : n + 1 ≤ cap) : ∃ cc', OwnL w lo hi E sz (.slice (some ⟨g, 0, none⟩) (n + 1) cap) (n + 1) ((n + 1) * sz) cc' ∧ ∀ o, o < K → o < n * sz → cc' o = cc o := by
  rcases h with ⟨h0, _⟩ | ⟨g', cap', xs, h0, a1, a2, a3, ⟨hl, a4⟩, a5⟩
  · omega
  · injection h0 with e1 e2 e3
    injection e1 with e1
    injection e1 with e1
    subst e1 e3
    rcases a4 with ⟨a4, _⟩ | ⟨x, y, cur, he, hb, hh, hnc, hcm, hcs, ht⟩
    · cases a4
    · injection he with e1 _ e3
      injection e1 with e1
      injection e1 with e1
      subst e1 e3
      have hle : (n + 1) * sz ≤ cap * sz := Nat.mul_le_mul_right sz hc
      have hns : n * sz ≤ (n + 1) * sz := Nat.mul_le_mul_right sz (Nat.le_succ n)
      have hlen : (cur.toList.take ((n + 1) * sz)).length = (n + 1) * sz := by rw [List.length_take, Array.length_toList, hcs]; omega
      refine ⟨fun o => (cur.toList.take ((n + 1) * sz)).getD o (.bool false), .inr ⟨g, cap, cur.toList.take ((n + 1) * sz), rfl, a1, a2, hc, ⟨hlen, .inr ⟨g, cap, cur, rfl, hb, hh, hc, hcm, hcs, rfl⟩⟩, fun o ho _ => ?_⟩, fun o ho ho' => ?_⟩
      · simp [List.getD, List.getElem?_eq_getElem (show o < (cur.toList.take ((n + 1) * sz)).length by omega)]
      · have h1 := a5 o ho ho'
        rw [← ht, List.getElem?_take, if_pos ho'] at h1
        show (cur.toList.take ((n + 1) * sz)).getD o (.bool false) = cc o
        rw [List.getD, List.getElem?_take, if_pos (by omega), h1]
        rfl
end
theorem setCells_size (b : Nat) : ∀ (vs : List Value) (o : Nat) (w : World), (w.setCells b o vs).heap.size = w.heap.size
  | [], _, _ => rfl
  | v :: r, o, w => by rw [World.setCells, setCells_size b r]; simp [World.setCell]
theorem setCells_other (b : Nat) {k : Nat} (hk : k ≠ b) : ∀ (vs : List Value) (o : Nat) (w : World), (w.setCells b o vs).heap[k]? = w.heap[k]?
  | [], _, _ => rfl
  | v :: r, o, w => by rw [World.setCells, setCells_other b hk r]; exact Deep.blk_setCell_other _ _ _ _ hk
theorem run_copy_wide {P : Program} (w : World) (dT sT ty elem : TypeId) (b o dLen dCap : Nat) (a : Addr) (sLen sCap sz : Nat) (cs : List Value)
    (hu : P.underlying dT = some (.slice elem)) (hs : (P.info? elem).map (·.size) = some sz) (hn : cs.length = Nat.min sLen dLen * sz)
    (hsrc : ∀ j v, cs[j]? = some v → w.cell? (a.add j) = some v) (hc : ∀ j, j < cs.length → (w.cell? ⟨b, o + j, none⟩).isSome = true) (hf : ∀ j, j < cs.length → w.frozen? ⟨b, o + j, none⟩ = false) (h1 : ∀ v ∈ cs, v.oneCell' = true) :
    (Builtin.copy_ #[dT, sT] ty #[.slice (some ⟨b, o, none⟩) dLen dCap, .slice (some a) sLen sCap]).run P w = .ok (goInt (Nat.min sLen dLen)) (w.setCells b o cs) := by
  have hl := run_loadCells_list (P := P) w a cs hsrc
  have hst := run_storeCells_cells (P := P) b o cs 0 w (by simpa using hc) (by simpa using hf) h1
  rw [hn] at hl
  cases hq : P.info? elem with
  | none => simp [hq] at hs
  | some i =>
    have hi : i.size = sz := by simpa [hq] using hs
    simp [Builtin.copy_, run_underlying hu, Builtin.lenOf, Builtin.firstCells, sizeOf, typeInfo, hq, hi, hl, hst]
theorem wpList_copy_at {P : Program} (w : World) {ops : Array Oper} {rest : List Oper} {o : Oper} {a : Act} {Q : Exit → Act → World → Prop} (hgd : o.guard = none) (d s : Operand) (t t' : TypeId)
    (ho : o.op = .call { callee := .builtin .copy, args := #[d, s], argTypes := #[t, t'] }) (v u : Value) (hd : a.eval d = v) (hs : a.eval s = u) {v' : Value} {w' : World}
    (hr : (Builtin.copy_ #[t, t'] o.type #[v, u]).run P w = .ok v' w') (h : wpList P ops Q rest (a.put o.dst v') w') : wpList P ops Q (o :: rest) a w :=
  wpList_plain hgd fun _ hK => by
    unfold Oper.wp execOp
    simp only [ho, resolve, invoke, builtin, Sem.run_bind, Sem.run_pure, Result.andThen_ok, List.map_toArray, List.map_cons, List.map_nil, hd, hs, hr]
    exact hK _ _ h
theorem step_copy_at {P : Program} {ops : Array Oper} {o : Oper} {a : Act} {w : World} {K : Act → World → Prop} {Q : Exit → Act → World → Prop} {E : Prop}
    (hg : o.guard = none) (d x : Operand) (dT sT : TypeId) (hop : o.op = Op.call { callee := Callee.builtin Builtin.copy, args := #[d, x], argTypes := #[dT, sT] })
    (v u : Value) (hd : a.eval d = v) (hx : a.eval x = u) {v' : Value} {w' : World} (hr : (Builtin.copy_ #[dT, sT] o.type #[v, u]).run P w = .ok v' w') (hK : K (a.put o.dst v') w') :
    if Region.wanted o (yielded ops a.tmps) = true then Oper.wp P o a w K Q else E := by
  have hw : Region.wanted o (yielded ops a.tmps) = true := by simp [Region.wanted, hg]
  rw [if_pos hw]
  unfold Oper.wp
  simp [execOp, hop, resolve, invoke, builtin, hd, hx, hr, Result.andThen]
  exact hK
def insC (k : Nat) (c : Nat → Nat → Value) (x : Nat → Value) (i j : Nat) : Value := if i < k then c i j else if i = k then x j else c (i - 1) j

end Go.Proofs.YtnmmkechkcfjnaaGreatDoor
