/-
  Walks: the plan of reliefs, and the reference's.
-/
import Derived.Test.YtaijbihjkbpoeaaWPlan
import Derived.Test.YtaijbihjkbpoeaaMix
namespace Go.Proofs.Ytaijbihjkbpoeaa
set_option linter.unusedVariables false
set_option linter.unusedSimpArgs false
open Go.RowKit

set_option maxRecDepth 100000 in
set_option maxHeartbeats 3200000 in
theorem ReliefPlan_impl (c : Nat → ByteArray) (n : Nat) (p q r t : Int) (lo hi : Nat) (v : Value) (w : World) (hv : Sl w lo hi 1 v n (sC c)) (hhi : hi ≤ w.heap.size) (hf : pfits c n) :
    Calls Try.prog 10 #[v, .int .i64 p, .int .i64 q, .int .i64 r, .int .i64 t] w (PlRes c n p q r t (plOk c n p q r t) w) := by
  obtain ⟨A, cap, rfl, hcap, hA⟩ := hv.open_
  obtain ⟨hn, hsz⟩ := hf
  obtain ⟨ii, hii, iz0, iz1, iz2⟩ := info_parts infoPeriod
  cases hc1_0 : inB p 0 9999 with
  | false =>
    have HX : Hid (plOk c n p q r t = false) := by show _ = _; simp [plOk, spanB, *]
    go_enter Try.func10, Try.ntmps10
    go_wp2_with (first | (go_at_call 32; refine (isMinute_any _ _).mono ?_; rintro e w' ⟨rfl, rfl⟩) | (go_at_call 33; refine (inside_any _ _ _ _).mono ?_; rintro e w' ⟨rfl, rfl⟩))
    go_ret2
    rw [HX.out]
    exact pl_nil HX.out (by repeat (first | (with_reducible exact Below.refl _ _) | (with_reducible refine below_ov ?_ ?_) | (with_reducible refine Below.setCell ?_ ?_ _) | (with_reducible refine Below.alloc ?_ ?_ _) | (with_reducible refine Below.drew ?_) | (with_reducible refine below_drewN ?_ _) | (refine Below.trans ?_ (Below.mono ‹Below _ _ _› (by first | omega | (simp; done) | (simp; omega)))) | exact Below.refl _ _ | omega | (focus (simp; done)) | (focus (simp; omega))))
  | true =>
    obtain ⟨hc1_0l, hc1_0r⟩ := inB_iff.1 hc1_0
    cases hc1_1 : inB q 0 9999 with
    | false =>
      have HX : Hid (plOk c n p q r t = false) := by show _ = _; simp [plOk, spanB, *]
      go_enter Try.func10, Try.ntmps10
      go_wp2_with (first | (go_at_call 32; refine (isMinute_any _ _).mono ?_; rintro e w' ⟨rfl, rfl⟩) | (go_at_call 33; refine (inside_any _ _ _ _).mono ?_; rintro e w' ⟨rfl, rfl⟩))
      go_ret2
      rw [HX.out]
      exact pl_nil HX.out (by repeat (first | (with_reducible exact Below.refl _ _) | (with_reducible refine below_ov ?_ ?_) | (with_reducible refine Below.setCell ?_ ?_ _) | (with_reducible refine Below.alloc ?_ ?_ _) | (with_reducible refine Below.drew ?_) | (with_reducible refine below_drewN ?_ _) | (refine Below.trans ?_ (Below.mono ‹Below _ _ _› (by first | omega | (simp; done) | (simp; omega)))) | exact Below.refl _ _ | omega | (focus (simp; done)) | (focus (simp; omega))))
    | true =>
      obtain ⟨hc1_1l, hc1_1r⟩ := inB_iff.1 hc1_1
      cases hc1_2 : decide (p < q) with
      | false =>
        have hc1_2l := of_decide_eq_false hc1_2
        have HX : Hid (plOk c n p q r t = false) := by show _ = _; simp [plOk, spanB, *]
        go_enter Try.func10, Try.ntmps10
        go_wp2_with (first | (go_at_call 32; refine (isMinute_any _ _).mono ?_; rintro e w' ⟨rfl, rfl⟩) | (go_at_call 33; refine (inside_any _ _ _ _).mono ?_; rintro e w' ⟨rfl, rfl⟩))
        go_ret2
        rw [HX.out]
        exact pl_nil HX.out (by repeat (first | (with_reducible exact Below.refl _ _) | (with_reducible refine below_ov ?_ ?_) | (with_reducible refine Below.setCell ?_ ?_ _) | (with_reducible refine Below.alloc ?_ ?_ _) | (with_reducible refine Below.drew ?_) | (with_reducible refine below_drewN ?_ _) | (refine Below.trans ?_ (Below.mono ‹Below _ _ _› (by first | omega | (simp; done) | (simp; omega)))) | exact Below.refl _ _ | omega | (focus (simp; done)) | (focus (simp; omega))))
      | true =>
        have hc1_2l := of_decide_eq_true hc1_2
        cases hc1_3 : inB r 1 720 with
        | false =>
          have HX : Hid (plOk c n p q r t = false) := by show _ = _; simp [plOk, spanB, *]
          go_enter Try.func10, Try.ntmps10
          go_wp2_with (first | (go_at_call 32; refine (isMinute_any _ _).mono ?_; rintro e w' ⟨rfl, rfl⟩) | (go_at_call 33; refine (inside_any _ _ _ _).mono ?_; rintro e w' ⟨rfl, rfl⟩))
          go_ret2
          rw [HX.out]
          exact pl_nil HX.out (by repeat (first | (with_reducible exact Below.refl _ _) | (with_reducible refine below_ov ?_ ?_) | (with_reducible refine Below.setCell ?_ ?_ _) | (with_reducible refine Below.alloc ?_ ?_ _) | (with_reducible refine Below.drew ?_) | (with_reducible refine below_drewN ?_ _) | (refine Below.trans ?_ (Below.mono ‹Below _ _ _› (by first | omega | (simp; done) | (simp; omega)))) | exact Below.refl _ _ | omega | (focus (simp; done)) | (focus (simp; omega))))
        | true =>
          obtain ⟨hc1_3l, hc1_3r⟩ := inB_iff.1 hc1_3
          cases hc1_4 : inB t 0 720 with
          | false =>
            have HX : Hid (plOk c n p q r t = false) := by show _ = _; simp [plOk, spanB, *]
            go_enter Try.func10, Try.ntmps10
            go_wp2_with (first | (go_at_call 32; refine (isMinute_any _ _).mono ?_; rintro e w' ⟨rfl, rfl⟩) | (go_at_call 33; refine (inside_any _ _ _ _).mono ?_; rintro e w' ⟨rfl, rfl⟩))
            go_ret2
            rw [HX.out]
            exact pl_nil HX.out (by repeat (first | (with_reducible exact Below.refl _ _) | (with_reducible refine below_ov ?_ ?_) | (with_reducible refine Below.setCell ?_ ?_ _) | (with_reducible refine Below.alloc ?_ ?_ _) | (with_reducible refine Below.drew ?_) | (with_reducible refine below_drewN ?_ _) | (refine Below.trans ?_ (Below.mono ‹Below _ _ _› (by first | omega | (simp; done) | (simp; omega)))) | exact Below.refl _ _ | omega | (focus (simp; done)) | (focus (simp; omega))))
          | true =>
            obtain ⟨hc1_4l, hc1_4r⟩ := inB_iff.1 hc1_4
            have hS : spanB p q r t = true := by simp [spanB, *]
            have HS := hide hS
            have hbd := pl_facts (c := c) (n := n) hS
            have hle := pl_least hS
            clear hS
            go_enter Try.func10, Try.ntmps10
            go_wp2_with (first | (go_at_call 32; refine (isMinute_any _ _).mono ?_; rintro e w' ⟨rfl, rfl⟩) | (go_at_call 33; refine (inside_any _ _ _ _).mono ?_; rintro e w' ⟨rfl, rfl⟩))
            go_loopw [41] (fun i wr => ∃ k : Nat, k ≤ n ∧ i = .int .i64 k ∧ Hid (∀ j, j < k → crP c j = true) ∧ Below w.heap.size w wr) (fun i _ => n - (intOf i).toNat)
            case atStart => exact ⟨0, by omega, rfl, fun j hj => by omega, Below.refl _ _⟩
            case round =>
              obtain ⟨k, hk, rfl, hj, hb⟩ := hrel
              have hzr := hb.size
              by_cases hkn : k < n
              · obtain ⟨blk, off, rfl, h1, h2, h3⟩ := (hA.below hb (by omega)) (by omega)
                have c0 : wr.cell? ⟨blk, off + k, none⟩ = some (.string (c k)) := by simpa [sC] using h3 k 0 hkn (by omega)
                have c1 : wr.cell? ⟨blk, off + (k - 1), none⟩ = some (.string (c (k - 1))) := by simpa [sC] using h3 (k - 1) 0 (by omega) (by omega)
                have l0 : blk < wr.heap.size := by omega
                clear h3 hA
                cases e1 : nameB (c k) with
                | false =>
                  have HX : Hid (plOk c n p q r t = false) := by show _ = _; simp [plOk, crB, allB_false hkn (show crP c k = false by simp [crP, e1])]
                  go_wp2_with (go_at_call 34; refine (isName_any _ _ (hsz k hkn)).mono ?_; rintro e w2 ⟨rfl, hd2⟩; obtain ⟨n2, rfl⟩ := hd2)
                  go_ret2
                  rw [HX.out]
                  exact pl_nil HX.out (by repeat (first | (with_reducible exact Below.refl _ _) | (with_reducible refine below_ov ?_ ?_) | (with_reducible refine Below.setCell ?_ ?_ _) | (with_reducible refine Below.alloc ?_ ?_ _) | (with_reducible refine Below.drew ?_) | (with_reducible refine below_drewN ?_ _) | (refine Below.trans ?_ (Below.mono ‹Below _ _ _› (by first | omega | (simp; done) | (simp; omega)))) | exact Below.refl _ _ | omega | (focus (simp; done)) | (focus (simp; omega))))
                | true =>
                  rcases Nat.eq_zero_or_pos k with h0 | h0
                  · have HG : Hid (crP c k = true) := by show _ = _; simp [crP, riP, h0, e1]; rw [← e1, h0]
                    have d0 : decide (0 < k) = false := by simp; omega
                    have dk : decide (k = 0) = true := by simp; omega
                    clear h0
                    go_wp2_with (go_at_call 34; refine (isName_any _ _ (hsz k hkn)).mono ?_; rintro e w2 ⟨rfl, hd2⟩; obtain ⟨n2, rfl⟩ := hd2)
                    go_roundw
                    case rel => exact ⟨k + 1, by omega, by go_num, upto_snoc hj.out HG.out, (by repeat (first | (with_reducible exact Below.refl _ _) | (with_reducible refine below_ov ?_ ?_) | (with_reducible refine Below.setCell ?_ ?_ _) | (with_reducible refine Below.alloc ?_ ?_ _) | (with_reducible refine Below.drew ?_) | (with_reducible refine below_drewN ?_ _) | (refine Below.trans ?_ (Below.mono ‹Below _ _ _› (by first | omega | (simp; done) | (simp; omega)))) | exact Below.refl _ _ | omega | (focus (simp; done)) | (focus (simp; omega))))⟩
                    case measure => simp [intOf]; omega
                  · have d0 : decide (0 < k) = true := by simp; omega
                    have dk : decide (k = 0) = false := by simp; omega
                    have z1 : IntKind.i64.wrap ((k : Int) - 1) = (k : Int) - 1 := IntWalk.i64_in _ (by omega)
                    have z2 : ((k : Int) - 1).toNat = k - 1 := by omega
                    cases e2 : Op.bytesLess (c (k - 1)).toList (c k).toList with
                    | true =>
                      have HG : Hid (crP c k = true) := by show _ = _; simp [crP, riP, ltS, e1, e2]
                      go_wp2_with (go_at_call 34; refine (isName_any _ _ (hsz k hkn)).mono ?_; rintro e w2 ⟨rfl, hd2⟩; obtain ⟨n2, rfl⟩ := hd2)
                      go_roundw
                      case rel => exact ⟨k + 1, by omega, by go_num, upto_snoc hj.out HG.out, (by repeat (first | (with_reducible exact Below.refl _ _) | (with_reducible refine below_ov ?_ ?_) | (with_reducible refine Below.setCell ?_ ?_ _) | (with_reducible refine Below.alloc ?_ ?_ _) | (with_reducible refine Below.drew ?_) | (with_reducible refine below_drewN ?_ _) | (refine Below.trans ?_ (Below.mono ‹Below _ _ _› (by first | omega | (simp; done) | (simp; omega)))) | exact Below.refl _ _ | omega | (focus (simp; done)) | (focus (simp; omega))))⟩
                      case measure => simp [intOf]; omega
                    | false =>
                      have HX : Hid (plOk c n p q r t = false) := by show _ = _; simp [plOk, crB, allB_false hkn (show crP c k = false by simp [crP, riP, ltS, e1, e2]; omega)]
                      go_wp2_with (go_at_call 34; refine (isName_any _ _ (hsz k hkn)).mono ?_; rintro e w2 ⟨rfl, hd2⟩; obtain ⟨n2, rfl⟩ := hd2)
                      go_ret2
                      rw [HX.out]
                      exact pl_nil HX.out (by repeat (first | (with_reducible exact Below.refl _ _) | (with_reducible refine below_ov ?_ ?_) | (with_reducible refine Below.setCell ?_ ?_ _) | (with_reducible refine Below.alloc ?_ ?_ _) | (with_reducible refine Below.drew ?_) | (with_reducible refine below_drewN ?_ _) | (refine Below.trans ?_ (Below.mono ‹Below _ _ _› (by first | omega | (simp; done) | (simp; omega)))) | exact Below.refl _ _ | omega | (focus (simp; done)) | (focus (simp; omega))))
              · obtain rfl : k = n := by omega
                have hC : crB c k = true := allB_iff.2 hj.out
                cases e3 : inB k (lcN p q r t) 8 with
                | false =>
                  have HX : Hid (plOk c k p q r t = false) := by
                    show _ = _
                    cases e : plOk c k p q r t with
                    | false => rfl
                    | true =>
                      simp only [plOk, Bool.and_eq_true, decide_eq_true_eq] at e
                      rw [← e3]
                      exact (inB_iff.2 ⟨e.1.2, e.1.1.2⟩).symm
                  go_wp2_with (first | (go_at_call 35; refine (leastCrews_any _ _ _ _ _ HS.out).mono ?_; rintro e w' ⟨rfl, rfl⟩) | (go_at_call 33; refine (inside_any _ _ _ _).mono ?_; rintro e w' ⟨rfl, rfl⟩))
                  go_ret2
                  rw [HX.out]
                  exact pl_nil HX.out (by repeat (first | (with_reducible exact Below.refl _ _) | (with_reducible refine below_ov ?_ ?_) | (with_reducible refine Below.setCell ?_ ?_ _) | (with_reducible refine Below.alloc ?_ ?_ _) | (with_reducible refine Below.drew ?_) | (with_reducible refine below_drewN ?_ _) | (refine Below.trans ?_ (Below.mono ‹Below _ _ _› (by first | omega | (simp; done) | (simp; omega)))) | exact Below.refl _ _ | omega | (focus (simp; done)) | (focus (simp; omega))))
                | true =>
                  cases e4 : decide (12 < upF (q - p) r) with
                  | true =>
                    have HX : Hid (plOk c k p q r t = false) := by
                      show _ = _
                      have := of_decide_eq_true e4
                      simp [plOk]
                      intros
                      omega
                    go_wp2_with (first | (go_at_call 35; refine (leastCrews_any _ _ _ _ _ HS.out).mono ?_; rintro e w' ⟨rfl, rfl⟩) | (go_at_call 33; refine (inside_any _ _ _ _).mono ?_; rintro e w' ⟨rfl, rfl⟩) | (go_at_call 36; refine (upTo_any _ _ _ (by omega) (by omega) (by omega) (by omega)).mono ?_; rintro e w' ⟨rfl, rfl⟩))
                    go_ret2
                    rw [HX.out]
                    exact pl_nil HX.out (by repeat (first | (with_reducible exact Below.refl _ _) | (with_reducible refine below_ov ?_ ?_) | (with_reducible refine Below.setCell ?_ ?_ _) | (with_reducible refine Below.alloc ?_ ?_ _) | (with_reducible refine Below.drew ?_) | (with_reducible refine below_drewN ?_ _) | (refine Below.trans ?_ (Below.mono ‹Below _ _ _› (by first | omega | (simp; done) | (simp; omega)))) | exact Below.refl _ _ | omega | (focus (simp; done)) | (focus (simp; omega))))
                  | false =>
                    have h8 := (inB_iff.1 e3).1
                    have h9 := (inB_iff.1 e3).2
                    have h12 := of_decide_eq_false e4
                    have hX : plOk c k p q r t = true := by
                      simp [plOk, HS.out, hC, h8, h9]; omega
                    have HN : Hid (plN c k p q r t = (upF (q - p) r).toNat) := by show _ = _; rw [plN, if_pos hX]
                    have HX := hide hX
                    clear hX hC
                    have hk1 : 1 ≤ k := by omega
                    go_wp2_with (first | (go_at_call 35; refine (leastCrews_any _ _ _ _ _ HS.out).mono ?_; rintro e w' ⟨rfl, rfl⟩) | (go_at_call 33; refine (inside_any _ _ _ _).mono ?_; rintro e w' ⟨rfl, rfl⟩) | (go_at_call 36; refine (upTo_any _ _ _ (by omega) (by omega) (by omega) (by omega)).mono ?_; rintro e w' ⟨rfl, rfl⟩))
                    have hb0 := hb
                    go_loopw [14, 15] (fun o i wr => ∃ (j : Nat) (B : Option Addr) (cp : Nat), j ≤ (upF (q - p) r).toNat ∧ i = .int .i64 (p + j * r) ∧ o = .slice B j cp ∧ Hid (wr.ownsRow w.heap.size 39 3 (.slice B j cp) j (plV c k p q r j)) ∧ Below w.heap.size w wr) (fun _ i _ => (q - intOf i).toNat)
                    case atStart => exact ⟨0, none, 0, by omega, by go_num, rfl, World.ownsRow_nil _ _ _ _, hb0⟩
                    case round =>
                      clear hb hzr hb0
                      obtain ⟨j, B, cp, hj2, rfl, rfl, hown, hb⟩ := hrel
                      have hzr := hb.size
                      have hat := pl_at (k := j) HS.out
                      by_cases hjn : j < (upF (q - p) r).toNat
                      · have dq : decide (p + j * r < q) = true := by rw [hat]; exact decide_eq_true hjn
                        have hq := of_decide_eq_true dq
                        obtain ⟨blk, off, rfl, h1, h2, h3⟩ := (hA.below hb (by omega)) (by omega)
                        have hm : j % k < k := Nat.mod_lt _ (by omega)
                        have c0 : wr.cell? ⟨blk, off + j % k, none⟩ = some (.string (c (j % k))) := by simpa [sC] using h3 (j % k) 0 hm (by omega)
                        have l0 : blk < wr.heap.size := by omega
                        have hk02 : ¬ (k : Int) = 0 := by omega
                        have i0 : (0 : Int) ≤ ((j % k : Nat) : Int) := by omega
                        have i1 : ((j % k : Nat) : Int) < (k : Int) := by omega
                        have hjr : (0 : Int) ≤ (j : Int) * r := Int.mul_nonneg (by omega) (by omega)
                        obtain ⟨P, hP⟩ : ∃ P : Int, P = p + j * r := ⟨_, rfl⟩
                        have hPq : P < q := by omega
                        have HPP := hide hP
                        rw [show p + (j : Int) * r = P from hP.symm]
                        have HL : Hid (plV c k p q r (j + 1) = plV c k p q r j ++ [.string (c (j % k)), .int .i64 P, .int .i64 (min (P + r) q)]) := by show _ = _; rw [plV_snoc, plC, plA, plB, ← hP]
                        have HNX : Hid (P + r = p + ((j + 1 : Nat) : Int) * r) := by show _ = _; rw [hP, Int.natCast_succ, Int.add_mul, Int.one_mul]; omega
                        have hP0 : 0 ≤ P := by omega
                        clear hP hjr hat dq hq
                        clear h3 hA
                        by_cases hmn : q < P + r
                        · have HM : Hid (min (P + r) q = q) := by show _ = _; omega
                          rw [HM.out] at HL
                          go_wp2_with (at_builtin; refine wpList_append_own _ rfl _ _ 24 rfl w.heap.size 39 ii (.agg #[.string ⟨#[]⟩, .int .i64 0, .int .i64 0]) 3 32 Try.underlying24 hii iz0 iz1 iz2 rfl (by decide) _ _ _ rfl (hown.out.alloc _) ⟨wr.heap.size, 0, none⟩ 1 1 [.string (c (j % k)), .int .i64 P, .int .i64 (q)] rfl rfl (by intro i u hu; match i, hu with | 0, hu => (simp at hu; subst hu; simp [go_sem, Addr.add]) | 1, hu => (simp at hu; subst hu; simp [go_sem, Addr.add]) | 2, hu => (simp at hu; subst hu; simp [go_sem, Addr.add])) three_one (by unfold maxLen; omega) (by omega) (by simp; omega) ?_)
                          intro v' w5 hown5 hg5 _
                          have hb5 : Below w.heap.size w w5 := (hb.alloc (by omega) _).grown hg5 (by simp; omega) (fun g hg => (hown.out.lt g hg).1)
                          have hz5 := hb5.size
                          obtain ⟨B2, cp2, rfl⟩ := row_form hown5
                          have hown6 := hide hown5
                          clear hown5 hg5 hown
                          go_wp2_with fail
                          go_roundw
                          case rel => exact ⟨j + 1, B2, cp2, by omega, by rw [← HNX.out], rfl, by rw [HL.out]; exact hown6, hb5⟩
                          case measure => simp [intOf]; omega
                        · have HM : Hid (min (P + r) q = P + r) := by show _ = _; omega
                          rw [HM.out] at HL
                          go_wp2_with (at_builtin; refine wpList_append_own _ rfl _ _ 24 rfl w.heap.size 39 ii (.agg #[.string ⟨#[]⟩, .int .i64 0, .int .i64 0]) 3 32 Try.underlying24 hii iz0 iz1 iz2 rfl (by decide) _ _ _ rfl (hown.out.alloc _) ⟨wr.heap.size, 0, none⟩ 1 1 [.string (c (j % k)), .int .i64 P, .int .i64 (P + r)] rfl rfl (by intro i u hu; match i, hu with | 0, hu => (simp at hu; subst hu; simp [go_sem, Addr.add]) | 1, hu => (simp at hu; subst hu; simp [go_sem, Addr.add]) | 2, hu => (simp at hu; subst hu; simp [go_sem, Addr.add])) three_one (by unfold maxLen; omega) (by omega) (by simp; omega) ?_)
                          intro v' w5 hown5 hg5 _
                          have hb5 : Below w.heap.size w w5 := (hb.alloc (by omega) _).grown hg5 (by simp; omega) (fun g hg => (hown.out.lt g hg).1)
                          have hz5 := hb5.size
                          obtain ⟨B2, cp2, rfl⟩ := row_form hown5
                          have hown6 := hide hown5
                          clear hown5 hg5 hown
                          go_wp2_with fail
                          go_roundw
                          case rel => exact ⟨j + 1, B2, cp2, by omega, by rw [← HNX.out], rfl, by rw [HL.out]; exact hown6, hb5⟩
                          case measure => simp [intOf]; omega
                      · have dq : decide (p + j * r < q) = false := by rw [hat]; exact decide_eq_false hjn
                        have hj3 : Hid (plN c k p q r t = j) := by show _ = _; rw [HN.out]; omega
                        go_wp2_with fail
                        go_ret2
                        rw [HX.out]
                        refine ⟨_, rfl, ?_, hb⟩
                        rw [hj3.out]
                        exact own_row hown.out

set_option maxRecDepth 100000 in
set_option maxHeartbeats 3200000 in
theorem ReliefPlan_spec (c : Nat → ByteArray) (n : Nat) (p q r t : Int) (lo hi : Nat) (v : Value) (w : World) (hv : Sl w lo hi 1 v n (sC c)) (hhi : hi ≤ w.heap.size) (hf : pfits c n) :
    Calls Try.prog 8 #[v, .int .i64 p, .int .i64 q, .int .i64 r, .int .i64 t] w (PlRes c n p q r t (plOk c n p q r t) w) := by
  obtain ⟨A, cap, rfl, hcap, hA⟩ := hv.open_
  obtain ⟨hn, hsz⟩ := hf
  obtain ⟨ii, hii, iz0, iz1, iz2⟩ := info_parts infoPeriod
  cases hc2_0 : spanB p q r t with
  | false =>
    have HX : Hid (plOk c n p q r t = false) := by
      show _ = _
      cases e : plOk c n p q r t with
      | false => rfl
      | true =>
        simp only [plOk, crB_eq, Bool.and_eq_true, decide_eq_true_eq] at e
        simp_all
        try omega
    go_enter Try.func8, Try.ntmps8
    go_wp2_with (first | (go_at_call 27; refine (rfSpan_any _ _ _ _ _).mono ?_; rintro e w' ⟨rfl, rfl⟩) | (go_at_call 28; refine (dsNames_any c n lo hi _ _ hv hhi hn).mono ?_; rintro e w1 ⟨rfl, hb1⟩; have hz1 := hb1.size; (try (simp at hz1)); obtain ⟨hcw1, hfw1⟩ := bcell hb1; (try (have hy1 : w.heap.size < w1.heap.size := by omega)); (try (have hyy1 : w.heap.size + 1 < w1.heap.size := by omega)); (try (have hyyy1 : w.heap.size + 1 + 1 < w1.heap.size := by omega))))
    go_ret2
    rw [HX.out]
    exact pl_nil HX.out (by repeat (first | (with_reducible exact Below.refl _ _) | (with_reducible refine below_ov ?_ ?_) | (with_reducible refine Below.setCell ?_ ?_ _) | (with_reducible refine Below.alloc ?_ ?_ _) | (with_reducible refine Below.drew ?_) | (with_reducible refine below_drewN ?_ _) | (refine Below.trans ?_ (Below.mono ‹Below _ _ _› (by first | omega | (simp; done) | (simp; omega)))) | exact Below.refl _ _ | omega | (focus (simp; done)) | (focus (simp; omega))))
  | true =>
    cases hc2_1 : decide (n ≤ 8) with
    | false =>
      have hc2_1l := of_decide_eq_false hc2_1
      have HX : Hid (plOk c n p q r t = false) := by
        show _ = _
        cases e : plOk c n p q r t with
        | false => rfl
        | true =>
          simp only [plOk, crB_eq, Bool.and_eq_true, decide_eq_true_eq] at e
          simp_all
          try omega
      go_enter Try.func8, Try.ntmps8
      go_wp2_with (first | (go_at_call 27; refine (rfSpan_any _ _ _ _ _).mono ?_; rintro e w' ⟨rfl, rfl⟩) | (go_at_call 28; refine (dsNames_any c n lo hi _ _ hv hhi hn).mono ?_; rintro e w1 ⟨rfl, hb1⟩; have hz1 := hb1.size; (try (simp at hz1)); obtain ⟨hcw1, hfw1⟩ := bcell hb1; (try (have hy1 : w.heap.size < w1.heap.size := by omega)); (try (have hyy1 : w.heap.size + 1 < w1.heap.size := by omega)); (try (have hyyy1 : w.heap.size + 1 + 1 < w1.heap.size := by omega))))
      go_ret2
      rw [HX.out]
      exact pl_nil HX.out (by repeat (first | (with_reducible exact Below.refl _ _) | (with_reducible refine below_ov ?_ ?_) | (with_reducible refine Below.setCell ?_ ?_ _) | (with_reducible refine Below.alloc ?_ ?_ _) | (with_reducible refine Below.drew ?_) | (with_reducible refine below_drewN ?_ _) | (refine Below.trans ?_ (Below.mono ‹Below _ _ _› (by first | omega | (simp; done) | (simp; omega)))) | exact Below.refl _ _ | omega | (focus (simp; done)) | (focus (simp; omega))))
    | true =>
      have hc2_1l := of_decide_eq_true hc2_1
      cases hc2_2 : riB c n with
      | false =>
        have HX : Hid (plOk c n p q r t = false) := by
          show _ = _
          cases e : plOk c n p q r t with
          | false => rfl
          | true =>
            simp only [plOk, crB_eq, Bool.and_eq_true, decide_eq_true_eq] at e
            simp_all
            try omega
        go_enter Try.func8, Try.ntmps8
        go_wp2_with (first | (go_at_call 27; refine (rfSpan_any _ _ _ _ _).mono ?_; rintro e w' ⟨rfl, rfl⟩) | (go_at_call 28; refine (dsNames_any c n lo hi _ _ hv hhi hn).mono ?_; rintro e w1 ⟨rfl, hb1⟩; have hz1 := hb1.size; (try (simp at hz1)); obtain ⟨hcw1, hfw1⟩ := bcell hb1; (try (have hy1 : w.heap.size < w1.heap.size := by omega)); (try (have hyy1 : w.heap.size + 1 < w1.heap.size := by omega)); (try (have hyyy1 : w.heap.size + 1 + 1 < w1.heap.size := by omega))))
        go_ret2
        rw [HX.out]
        exact pl_nil HX.out (by repeat (first | (with_reducible exact Below.refl _ _) | (with_reducible refine below_ov ?_ ?_) | (with_reducible refine Below.setCell ?_ ?_ _) | (with_reducible refine Below.alloc ?_ ?_ _) | (with_reducible refine Below.drew ?_) | (with_reducible refine below_drewN ?_ _) | (refine Below.trans ?_ (Below.mono ‹Below _ _ _› (by first | omega | (simp; done) | (simp; omega)))) | exact Below.refl _ _ | omega | (focus (simp; done)) | (focus (simp; omega))))
      | true =>
        have hS : spanB p q r t = true := by assumption
        have HS := hide hS
        have hR : riB c n = true := by assumption
        have HR := hide hR
        have hbd := pl_facts (c := c) (n := n) hS
        have hle := pl_least hS
        go_enter Try.func8, Try.ntmps8
        go_wp2_with (first | (go_at_call 27; refine (rfSpan_any _ _ _ _ _).mono ?_; rintro e w' ⟨rfl, rfl⟩) | (go_at_call 28; refine (dsNames_any c n lo hi _ _ hv hhi hn).mono ?_; rintro e w1 ⟨rfl, hb1⟩; have hz1 := hb1.size; (try (simp at hz1)); obtain ⟨hcw1, hfw1⟩ := bcell hb1; (try (have hy1 : w.heap.size < w1.heap.size := by omega)); (try (have hyy1 : w.heap.size + 1 < w1.heap.size := by omega)); (try (have hyyy1 : w.heap.size + 1 + 1 < w1.heap.size := by omega))))
        clear hS hR
        have hbS : Below w.heap.size w w1 := (by repeat (first | (with_reducible exact Below.refl _ _) | (with_reducible refine below_ov ?_ ?_) | (with_reducible refine Below.setCell ?_ ?_ _) | (with_reducible refine Below.alloc ?_ ?_ _) | (with_reducible refine Below.drew ?_) | (with_reducible refine below_drewN ?_ _) | (refine Below.trans ?_ (Below.mono ‹Below _ _ _› (by first | omega | (simp; done) | (simp; omega)))) | exact Below.refl _ _ | omega | (focus (simp; done)) | (focus (simp; omega))))
        go_loopw [37] (fun i wr => ∃ k : Nat, k ≤ n ∧ i = .int .i64 k ∧ Hid (∀ j, j < k → nameB (c j) = true) ∧ Below w.heap.size w wr) (fun i _ => n - (intOf i).toNat)
        case atStart => exact ⟨0, by omega, rfl, fun j hj => by omega, hbS⟩
        case round =>
          clear hbS
          obtain ⟨k, hk, rfl, hj, hb⟩ := hrel
          have hzr := hb.size
          by_cases hkn : k < n
          · obtain ⟨blk, off, rfl, h1, h2, h3⟩ := (hA.below hb (by omega)) (by omega)
            have c0 : wr.cell? ⟨blk, off + k, none⟩ = some (.string (c k)) := by simpa [sC] using h3 k 0 hkn (by omega)
            have l0 : blk < wr.heap.size := by omega
            clear h3 hA
            cases e1 : nameB (c k) with
            | false =>
              have HX : Hid (plOk c n p q r t = false) := by show _ = _; simp [plOk, crB, allB_false hkn (show crP c k = false by simp [crP, e1])]
              go_wp2_with (go_at_call 29; refine (apName_any _ _ (hsz k hkn)).mono ?_; rintro e w2 ⟨rfl, hd2⟩; obtain ⟨n2, rfl⟩ := hd2)
              go_ret2
              rw [HX.out]
              exact pl_nil HX.out (by repeat (first | (with_reducible exact Below.refl _ _) | (with_reducible refine below_ov ?_ ?_) | (with_reducible refine Below.setCell ?_ ?_ _) | (with_reducible refine Below.alloc ?_ ?_ _) | (with_reducible refine Below.drew ?_) | (with_reducible refine below_drewN ?_ _) | (refine Below.trans ?_ (Below.mono ‹Below _ _ _› (by first | omega | (simp; done) | (simp; omega)))) | exact Below.refl _ _ | omega | (focus (simp; done)) | (focus (simp; omega))))
            | true =>
              have HG : Hid (nameB (c k) = true) := hide e1
              go_wp2_with (go_at_call 29; refine (apName_any _ _ (hsz k hkn)).mono ?_; rintro e w2 ⟨rfl, hd2⟩; obtain ⟨n2, rfl⟩ := hd2)
              go_roundw
              case rel => exact ⟨k + 1, by omega, by go_num, upto_snoc (p := fun i => nameB (c i)) hj.out HG.out, (by repeat (first | (with_reducible exact Below.refl _ _) | (with_reducible refine below_ov ?_ ?_) | (with_reducible refine Below.setCell ?_ ?_ _) | (with_reducible refine Below.alloc ?_ ?_ _) | (with_reducible refine Below.drew ?_) | (with_reducible refine below_drewN ?_ _) | (refine Below.trans ?_ (Below.mono ‹Below _ _ _› (by first | omega | (simp; done) | (simp; omega)))) | exact Below.refl _ _ | omega | (focus (simp; done)) | (focus (simp; omega))))⟩
              case measure => simp [intOf]; omega
          · obtain rfl : k = n := by omega
            have hC : crB c k = true := by rw [crB_eq, HR.out]; exact allB_iff.2 hj.out
            cases e3 : decide ((k : Int) < lcN p q r t) with
            | true =>
              have HX : Hid (plOk c k p q r t = false) := by
                show _ = _
                have := of_decide_eq_true e3
                simp [plOk]
                intros
                omega
              go_wp2_with (first | (go_at_call 30; refine (rfNeeded_any _ _ _ _ _ HS.out).mono ?_; rintro e w' ⟨rfl, rfl⟩))
              go_ret2
              rw [HX.out]
              exact pl_nil HX.out (by repeat (first | (with_reducible exact Below.refl _ _) | (with_reducible refine below_ov ?_ ?_) | (with_reducible refine Below.setCell ?_ ?_ _) | (with_reducible refine Below.alloc ?_ ?_ _) | (with_reducible refine Below.drew ?_) | (with_reducible refine below_drewN ?_ _) | (refine Below.trans ?_ (Below.mono ‹Below _ _ _› (by first | omega | (simp; done) | (simp; omega)))) | exact Below.refl _ _ | omega | (focus (simp; done)) | (focus (simp; omega))))
            | false =>
              cases e4 : decide (12 < upF (q - p) r) with
              | true =>
                have HX : Hid (plOk c k p q r t = false) := by
                  show _ = _
                  have := of_decide_eq_true e4
                  simp [plOk]
                  intros
                  omega
                go_wp2_with (first | (go_at_call 30; refine (rfNeeded_any _ _ _ _ _ HS.out).mono ?_; rintro e w' ⟨rfl, rfl⟩))
                go_ret2
                rw [HX.out]
                exact pl_nil HX.out (by repeat (first | (with_reducible exact Below.refl _ _) | (with_reducible refine below_ov ?_ ?_) | (with_reducible refine Below.setCell ?_ ?_ _) | (with_reducible refine Below.alloc ?_ ?_ _) | (with_reducible refine Below.drew ?_) | (with_reducible refine below_drewN ?_ _) | (refine Below.trans ?_ (Below.mono ‹Below _ _ _› (by first | omega | (simp; done) | (simp; omega)))) | exact Below.refl _ _ | omega | (focus (simp; done)) | (focus (simp; omega))))
              | false =>
                have h8 := of_decide_eq_false e3
                have h9 : (k : Int) ≤ 8 := by omega
                have h12 := of_decide_eq_false e4
                have hX : plOk c k p q r t = true := by
                  simp [plOk, HS.out, hC, h9]; omega
                have HN : Hid (plN c k p q r t = (upF (q - p) r).toNat) := by show _ = _; rw [plN, if_pos hX]
                have HX := hide hX
                clear hX hC
                have hk1 : 1 ≤ k := by omega
                go_wp2_with (first | (go_at_call 30; refine (rfNeeded_any _ _ _ _ _ HS.out).mono ?_; rintro e w' ⟨rfl, rfl⟩))
                have hb0 := hb
                go_loopw [16, 17, 18] (fun o i _ wr => ∃ (j : Nat) (B : Option Addr) (cp : Nat), j ≤ (upF (q - p) r).toNat ∧ i = .int .i64 j ∧ o = .slice B j cp ∧ Hid (wr.ownsRow w.heap.size 39 3 (.slice B j cp) j (plV c k p q r j)) ∧ Below w.heap.size w wr) (fun _ i _ _ => (upF (q - p) r - intOf i).toNat)
                case atStart => exact ⟨0, none, 0, by omega, rfl, rfl, World.ownsRow_nil _ _ _ _, hb0⟩
                case round =>
                  clear hb hzr hb0
                  obtain ⟨j, B, cp, hj2, rfl, rfl, hown, hb⟩ := hrel
                  have hzr := hb.size
                  have hat := pl_at (k := j) HS.out
                  by_cases hjn : j < (upF (q - p) r).toNat
                  · have dq : decide (p + j * r < q) = true := by rw [hat]; exact decide_eq_true hjn
                    have hq := of_decide_eq_true dq
                    obtain ⟨blk, off, rfl, h1, h2, h3⟩ := (hA.below hb (by omega)) (by omega)
                    have hm : j % k < k := Nat.mod_lt _ (by omega)
                    have c0 : wr.cell? ⟨blk, off + j % k, none⟩ = some (.string (c (j % k))) := by simpa [sC] using h3 (j % k) 0 hm (by omega)
                    have l0 : blk < w.heap.size := by omega
                    have hk02 : ¬ (k : Int) = 0 := by omega
                    have z1 : Int.tmod (j : Int) (k : Int) = ((j % k : Nat) : Int) := by rw [Int.tmod_eq_emod_of_nonneg (by omega)]; rfl
                    have HL0 : plV c k p q r (j + 1) = plV c k p q r j ++ [.string (c (j % k)), .int .i64 (plA p r j), .int .i64 (plB p q r j)] := plV_snoc _ _ _ _ _ _
                    obtain ⟨m, hme⟩ : ∃ m, j % k = m := ⟨_, rfl⟩
                    rw [hme] at z1 hm c0 HL0
                    have i0 : (0 : Int) ≤ (m : Int) := by omega
                    have i1 : (m : Int) < (k : Int) := by omega
                    have hjr : (0 : Int) ≤ (j : Int) * r := Int.mul_nonneg (by omega) (by omega)
                    have hjr2 : (j : Int) * r ≤ 10000 := by omega
                    have z3 : IntKind.i64.wrap ((j : Int) * r) = (j : Int) * r := IntWalk.i64_in _ (by omega)
                    have z4 : IntKind.i64.wrap (p + (j : Int) * r + r) = p + (j : Int) * r + r := IntWalk.i64_in _ (by omega)
                    have HL : Hid (plV c k p q r (j + 1) = plV c k p q r j ++ [.string (c m), .int .i64 (p + (j : Int) * r), .int .i64 (min (p + (j : Int) * r + r) q)]) := by show _ = _; rw [HL0, plA, plB]
                    have hji : (j : Int) < upF (q - p) r := by omega
                    clear hat dq hq h3 hA HL0 hme
                    go_wp2_with fail
                    refine wp_region_mix [(0, true), (1, true), (2, true), (3, true), (4, true), (5, true), (6, true), (7, true), (8, true), (9, true), (10, true), (11, true), (12, true), (13, false), (14, false), (15, false), (16, false), (17, true)] (fun w' => Below w.heap.size wr.drew w') (by kernel_rfl) (by kernel_rfl) (by kernel_rfl) (by kernel_rfl) (Below.refl _ _) ?_
                    refine mix_look _ _ rfl rfl (fun w' _ => BigFrame.run_move _ rfl w') ?_
                    go_simp
                    refine mix_look _ _ rfl rfl (fun w' _ => BigFrame.run_move _ rfl w') ?_
                    go_simp
                    refine mix_look _ _ rfl rfl (fun w' _ => BigFrame.run_move _ rfl w') ?_
                    go_simp
                    refine mix_look _ _ rfl rfl (fun w' _ => BigFrame.run_move _ rfl w') ?_
                    go_simp
                    refine mix_look _ (.int .i64 (k : Int)) rfl rfl (fun w' _ => (by go_simp)) ?_
                    go_simp
                    refine mix_look _ (.int .i64 (m : Int)) rfl rfl (fun w' _ => (by go_simp; omega)) ?_
                    go_simp
                    refine mix_look _ (.pointer (some ⟨blk, off + m, none⟩)) rfl rfl (fun w' _ => (by go_simp)) ?_
                    go_simp
                    refine mix_look _ (.string (c m)) rfl rfl (fun w' hw' => (by have c1 := (hw'.cell (p := ⟨blk, off + m, none⟩) l0).trans c0; go_simp)) ?_
                    go_simp
                    refine mix_look _ _ rfl rfl (fun w' _ => BigFrame.run_move _ rfl w') ?_
                    go_simp
                    refine mix_look _ _ rfl rfl (fun w' _ => BigFrame.run_move _ rfl w') ?_
                    go_simp
                    refine mix_look _ _ rfl rfl (fun w' _ => BigFrame.run_move _ rfl w') ?_
                    go_simp
                    refine mix_look _ _ rfl rfl (fun w' _ => BigFrame.run_move _ rfl w') ?_
                    go_simp
                    refine mix_look _ (.int .i64 (p + (j : Int) * r + r)) rfl rfl (fun w' _ => (by go_simp)) ?_
                    go_simp
                    refine mix_call _ 31 #[.int .i64 q, .int .i64 (p + (j : Int) * r + r)] rfl rfl (by go_simp) ?_
                    refine (l1Least_any _ _ _).mono ?_
                    rintro e w6 ⟨rfl, rfl⟩
                    refine ⟨_, rfl, Below.refl _ _, ?_⟩
                    go_simp
                    refine mix_value _ (.agg #[.string (c m), .int .i64 (p + (j : Int) * r), .int .i64 (min q (p + (j : Int) * r + r))]) _ rfl rfl (by go_simp) (Below.refl _ _) ?_
                    go_simp
                    refine mix_value _ (.slice (some ⟨wr.drew.heap.size, 0, none⟩) 1 1) (wr.drew.alloc (.cells #[.string (c m), .int .i64 (p + (j : Int) * r), .int .i64 (min q (p + (j : Int) * r + r))] 39)) rfl rfl (by go_simp) ((Below.refl _ _).alloc (by simp; omega) _) ?_
                    go_simp
                    obtain ⟨v7, w7, q1, q2, q3, _⟩ := run_append_own (P := Try.prog) (wr.drew.alloc (.cells #[.string (c m), .int .i64 (p + (j : Int) * r), .int .i64 (min q (p + (j : Int) * r + r))] 39)) w.heap.size 24 24 39 ii (.agg #[.string ⟨#[]⟩, .int .i64 0, .int .i64 0]) 3 32 Try.underlying24 hii iz0 iz1 iz2 rfl (by decide) _ _ _ ((row_below hown.out (Below.drew (Below.refl _ _)) (Nat.le_refl _)).alloc _) ⟨wr.drew.heap.size, 0, none⟩ 1 1 [.string (c m), .int .i64 (p + (j : Int) * r), .int .i64 (min q (p + (j : Int) * r + r))] rfl (fun i u hu => by
                      match i, hu with
                      | 0, hu => simp at hu; subst hu; simp [go_sem, Addr.add]
                      | 1, hu => simp at hu; subst hu; simp [go_sem, Addr.add]
                      | 2, hu => simp at hu; subst hu; simp [go_sem, Addr.add]) three_one (by unfold maxLen; omega) (by omega) (by simp; omega)
                    have hb5 : Below w.heap.size w w7 := ((Below.drew hb).alloc (by simp; omega) _).grown q3 (by simp; omega) (fun g hg => (hown.out.lt g hg).1)
                    have hb6 : Below w.heap.size wr.drew w7 := ((Below.refl _ _).alloc (by simp; omega) _).grown q3 (by simp; omega) (fun g hg => (hown.out.lt g hg).1)
                    refine mix_value _ v7 w7 rfl rfl (run_op_append _ _ 24 rfl rfl rfl q1) hb6 ?_
                    have hz5 := hb5.size
                    obtain ⟨B2, cp2, rfl⟩ := row_form q2
                    go_simp
                    rw [Int.min_comm] at q2
                    have hown6 := hide q2
                    clear q2 q3 hown
                    refine mix_look _ _ rfl rfl (fun w' _ => BigFrame.run_assign _ rfl w') ?_
                    go_simp
                    refine wpMix_nil ?_
                    go_wp2_with fail
                    go_roundw
                    case rel => exact ⟨j + 1, B2, cp2, by omega, by go_num, rfl, by rw [HL.out]; exact hown6, hb5⟩
                    case measure => simp [intOf]; omega
                  · have hji : (j : Int) = upF (q - p) r := by omega
                    have dq : decide ((j : Int) < upF (q - p) r) = false := decide_eq_false (by omega)
                    have hj3 : Hid (plN c k p q r t = j) := by show _ = _; rw [HN.out]; omega
                    go_wp2_with fail
                    go_ret2
                    rw [HX.out]
                    refine ⟨_, rfl, ?_, hb⟩
                    rw [hj3.out]
                    exact own_row hown.out

end Go.Proofs.Ytaijbihjkbpoeaa
