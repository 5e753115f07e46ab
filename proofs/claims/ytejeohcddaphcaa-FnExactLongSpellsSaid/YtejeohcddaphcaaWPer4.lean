/-
  Walks: how long a crew has worked, and rested.
-/
import Derived.Test.YtejeohcddaphcaaWPerZ
namespace Go.Proofs.Ytejeohcddaphcaa
set_option linter.unusedVariables false
set_option linter.unusedSimpArgs false
open Go.RowKit

/-- The minutes worked before a minute, in the first k periods. -/
def wkF (c : Nat → ByteArray) (a b : Nat → Int) (s : ByteArray) (m : Int) : Nat → Int
  | 0 => 0
  | k + 1 => if c k = s ∧ a k < m then wkF c a b s m k + (min (b k) m - a k) else wkF c a b s m k
theorem wk_yes {c : Nat → ByteArray} {a b : Nat → Int} {s : ByteArray} {m : Int} {k : Nat} (h : c k = s) (h' : a k < m) : wkF c a b s m (k + 1) = wkF c a b s m k + (min (b k) m - a k) := by rw [wkF, if_pos ⟨h, h'⟩]
theorem wk_no {c : Nat → ByteArray} {a b : Nat → Int} {s : ByteArray} {m : Int} {k : Nat} (h : ¬ (c k = s ∧ a k < m)) : wkF c a b s m (k + 1) = wkF c a b s m k := by rw [wkF, if_neg h]
theorem wk_bd {c : Nat → ByteArray} {a b : Nat → Int} {n : Nat} {s : ByteArray} {m : Int} (hp : pdB c a b n = true) (hm : 0 ≤ m) (hm' : m ≤ 9999) : ∀ k, k ≤ n → 0 ≤ wkF c a b s m k ∧ wkF c a b s m k ≤ 9999 * k
  | 0, _ => by simp [wkF]
  | k + 1, hk => by
    have ih := wk_bd (s := s) hp hm hm' k (by omega)
    have h0 := (perB_iff.1 ((pd_facts hp).2 k (by omega)).1).2
    by_cases h : c k = s ∧ a k < m
    · rw [wk_yes h.1 h.2]; omega
    · rw [wk_no h]; omega
def wkN (c : Nat → ByteArray) (a b : Nat → Int) (n : Nat) (s : ByteArray) (m : Int) : Int := if askP c a b n s m = true then wkF c a b s m n else 0
theorem ask_facts {c : Nat → ByteArray} {a b : Nat → Int} {n : Nat} {s : ByteArray} {m : Int} (h : askP c a b n s m = true) : pdB c a b n = true ∧ 0 ≤ m ∧ m ≤ 9999 := by
  simp only [askP, Bool.and_eq_true, inB_iff] at h
  exact ⟨h.1.1, h.2⟩

set_option maxRecDepth 100000 in
set_option maxHeartbeats 1600000 in
theorem WorkedBy_impl (c : Nat → ByteArray) (a b : Nat → Int) (n : Nat) (s : ByteArray) (m : Int) (lo hi : Nat) (v : Value) (w : World) (hv : Sl w lo hi 3 v n (siiC c a b)) (hhi : hi ≤ w.heap.size) (hf : pfits c n) (hs : s.size ≤ maxLen) :
    Calls Try.prog 19 #[v, .string s, .int .i64 m] w fun e w' => e = .returned (.tuple #[.int .i64 (wkN c a b n s m), .bool (askP c a b n s m)]) ∧ Below w.heap.size w w' := by
  obtain ⟨A, cap, rfl, hcap, hA⟩ := hv.open_
  have hn := hf.1
  cases hc1_0 : pdB c a b n with
  | false =>
    have HX : Hid (askP c a b n s m = false) := by show _ = _; simp [askP, *]
    go_enter Try.func19, Try.ntmps19
    go_wp2_with (first | (go_at_call 42; refine (arePeriods_any c a b n lo hi _ _ hv hhi hf).mono ?_; rintro e w1 ⟨rfl, hb1⟩; have hz1 := hb1.size; (try (simp at hz1)); obtain ⟨hcw1, hfw1⟩ := bcell hb1; (try (have hy1 : w.heap.size < w1.heap.size := by omega)); (try (have hyy1 : w.heap.size + 1 < w1.heap.size := by omega)); (try (have hyyy1 : w.heap.size + 1 + 1 < w1.heap.size := by omega))) | (go_at_call 46; refine (isName_any _ _ hs).mono ?_; rintro e w2 ⟨rfl, hd2⟩; obtain ⟨n2, rfl⟩ := hd2) | (go_at_call 36; refine (isMinute_any _ _).mono ?_; rintro e w' ⟨rfl, rfl⟩))
    go_ret2
    exact ⟨ret_ib (by rw [wkN, HX.out]; rfl) HX.out.symm, (by repeat (first | (with_reducible exact Below.refl _ _) | (with_reducible refine below_ov ?_ ?_) | (with_reducible refine Below.setCell ?_ ?_ _) | (with_reducible refine Below.alloc ?_ ?_ _) | (with_reducible refine Below.drew ?_) | (with_reducible refine below_drewN ?_ _) | (refine Below.trans ?_ (Below.mono ‹Below _ _ _› (by first | omega | (simp; done) | (simp; omega)))) | exact Below.refl _ _ | omega | (focus (simp; done)) | (focus (simp; omega))))⟩
  | true =>
    cases hc1_1 : nameB s with
    | false =>
      have HX : Hid (askP c a b n s m = false) := by show _ = _; simp [askP, *]
      go_enter Try.func19, Try.ntmps19
      go_wp2_with (first | (go_at_call 42; refine (arePeriods_any c a b n lo hi _ _ hv hhi hf).mono ?_; rintro e w1 ⟨rfl, hb1⟩; have hz1 := hb1.size; (try (simp at hz1)); obtain ⟨hcw1, hfw1⟩ := bcell hb1; (try (have hy1 : w.heap.size < w1.heap.size := by omega)); (try (have hyy1 : w.heap.size + 1 < w1.heap.size := by omega)); (try (have hyyy1 : w.heap.size + 1 + 1 < w1.heap.size := by omega))) | (go_at_call 46; refine (isName_any _ _ hs).mono ?_; rintro e w2 ⟨rfl, hd2⟩; obtain ⟨n2, rfl⟩ := hd2) | (go_at_call 36; refine (isMinute_any _ _).mono ?_; rintro e w' ⟨rfl, rfl⟩))
      go_ret2
      exact ⟨ret_ib (by rw [wkN, HX.out]; rfl) HX.out.symm, (by repeat (first | (with_reducible exact Below.refl _ _) | (with_reducible refine below_ov ?_ ?_) | (with_reducible refine Below.setCell ?_ ?_ _) | (with_reducible refine Below.alloc ?_ ?_ _) | (with_reducible refine Below.drew ?_) | (with_reducible refine below_drewN ?_ _) | (refine Below.trans ?_ (Below.mono ‹Below _ _ _› (by first | omega | (simp; done) | (simp; omega)))) | exact Below.refl _ _ | omega | (focus (simp; done)) | (focus (simp; omega))))⟩
    | true =>
      cases hc1_2 : inB m 0 9999 with
      | false =>
        have HX : Hid (askP c a b n s m = false) := by show _ = _; simp [askP, *]
        go_enter Try.func19, Try.ntmps19
        go_wp2_with (first | (go_at_call 42; refine (arePeriods_any c a b n lo hi _ _ hv hhi hf).mono ?_; rintro e w1 ⟨rfl, hb1⟩; have hz1 := hb1.size; (try (simp at hz1)); obtain ⟨hcw1, hfw1⟩ := bcell hb1; (try (have hy1 : w.heap.size < w1.heap.size := by omega)); (try (have hyy1 : w.heap.size + 1 < w1.heap.size := by omega)); (try (have hyyy1 : w.heap.size + 1 + 1 < w1.heap.size := by omega))) | (go_at_call 46; refine (isName_any _ _ hs).mono ?_; rintro e w2 ⟨rfl, hd2⟩; obtain ⟨n2, rfl⟩ := hd2) | (go_at_call 36; refine (isMinute_any _ _).mono ?_; rintro e w' ⟨rfl, rfl⟩))
        go_ret2
        exact ⟨ret_ib (by rw [wkN, HX.out]; rfl) HX.out.symm, (by repeat (first | (with_reducible exact Below.refl _ _) | (with_reducible refine below_ov ?_ ?_) | (with_reducible refine Below.setCell ?_ ?_ _) | (with_reducible refine Below.alloc ?_ ?_ _) | (with_reducible refine Below.drew ?_) | (with_reducible refine below_drewN ?_ _) | (refine Below.trans ?_ (Below.mono ‹Below _ _ _› (by first | omega | (simp; done) | (simp; omega)))) | exact Below.refl _ _ | omega | (focus (simp; done)) | (focus (simp; omega))))⟩
      | true =>
        obtain ⟨hc1_2l, hc1_2r⟩ := inB_iff.1 hc1_2
        have HX : Hid (askP c a b n s m = true) := by show _ = _; simp [askP, *]
        have HP := hide (ask_facts HX.out).1
        go_enter Try.func19, Try.ntmps19
        go_wp2_with (first | (go_at_call 42; refine (arePeriods_any c a b n lo hi _ _ hv hhi hf).mono ?_; rintro e w1 ⟨rfl, hb1⟩; have hz1 := hb1.size; (try (simp at hz1)); obtain ⟨hcw1, hfw1⟩ := bcell hb1; (try (have hy1 : w.heap.size < w1.heap.size := by omega)); (try (have hyy1 : w.heap.size + 1 < w1.heap.size := by omega)); (try (have hyyy1 : w.heap.size + 1 + 1 < w1.heap.size := by omega))) | (go_at_call 46; refine (isName_any _ _ hs).mono ?_; rintro e w2 ⟨rfl, hd2⟩; obtain ⟨n2, rfl⟩ := hd2) | (go_at_call 36; refine (isMinute_any _ _).mono ?_; rintro e w' ⟨rfl, rfl⟩))
        have hb0 : Below w.heap.size w (w1.drewN n2) := (by repeat (first | (with_reducible exact Below.refl _ _) | (with_reducible refine below_ov ?_ ?_) | (with_reducible refine Below.setCell ?_ ?_ _) | (with_reducible refine Below.alloc ?_ ?_ _) | (with_reducible refine Below.drew ?_) | (with_reducible refine below_drewN ?_ _) | (refine Below.trans ?_ (Below.mono ‹Below _ _ _› (by first | omega | (simp; done) | (simp; omega)))) | exact Below.refl _ _ | omega | (focus (simp; done)) | (focus (simp; omega))))
        go_loopw [8, 26] (fun x i wr => ∃ k : Nat, k ≤ n ∧ i = .int .i64 k ∧ x = .int .i64 (wkF c a b s m k) ∧ Below w.heap.size w wr) (fun _ i _ => n - (intOf i).toNat)
        case atStart => exact ⟨0, by omega, rfl, rfl, hb0⟩
        case round =>
          obtain ⟨k, hk, rfl, rfl, hb⟩ := hrel
          have hzr := hb.size
          have hw := wk_bd (s := s) (m := m) HP.out (by omega) (by omega) k hk
          by_cases hkn : k < n
          · obtain ⟨blk, off, rfl, h1, h2, h3⟩ := (hA.below hb (by omega)) (by omega)
            have c0 : wr.cell? ⟨blk, off + k * 3, none⟩ = some (.string (c k)) := h3 k 0 hkn (by omega)
            have c1 : wr.cell? ⟨blk, off + k * 3 + 1, none⟩ = some (.int .i64 (a k)) := h3 k 1 hkn (by omega)
            have c2 : wr.cell? ⟨blk, off + k * 3 + 2, none⟩ = some (.int .i64 (b k)) := h3 k 2 hkn (by omega)
            clear h3 hA
            have hpk := (perB_iff.1 ((pd_facts HP.out).2 k hkn).1).2
            cases e0 : ((c k).toList == s.toList) with
            | false =>
              have HG : Hid (wkF c a b s m (k + 1) = wkF c a b s m k) := wk_no fun h => by rw [str_beq, h.1] at e0; simp at e0
              go_wp2_with fail
              go_roundw
              case rel => exact ⟨k + 1, by omega, by go_num, by rw [HG.out], (by repeat (first | (with_reducible exact Below.refl _ _) | (with_reducible refine below_ov ?_ ?_) | (with_reducible refine Below.setCell ?_ ?_ _) | (with_reducible refine Below.alloc ?_ ?_ _) | (with_reducible refine Below.drew ?_) | (with_reducible refine below_drewN ?_ _) | (refine Below.trans ?_ (Below.mono ‹Below _ _ _› (by first | omega | (simp; done) | (simp; omega)))) | exact Below.refl _ _ | omega | (focus (simp; done)) | (focus (simp; omega))))⟩
              case measure => simp [intOf]; omega
            | true =>
              cases e1 : decide (a k < m) with
              | false =>
                have HG : Hid (wkF c a b s m (k + 1) = wkF c a b s m k) := wk_no fun h => of_decide_eq_false e1 h.2
                go_wp2_with fail
                go_roundw
                case rel => exact ⟨k + 1, by omega, by go_num, by rw [HG.out], (by repeat (first | (with_reducible exact Below.refl _ _) | (with_reducible refine below_ov ?_ ?_) | (with_reducible refine Below.setCell ?_ ?_ _) | (with_reducible refine Below.alloc ?_ ?_ _) | (with_reducible refine Below.drew ?_) | (with_reducible refine below_drewN ?_ _) | (refine Below.trans ?_ (Below.mono ‹Below _ _ _› (by first | omega | (simp; done) | (simp; omega)))) | exact Below.refl _ _ | omega | (focus (simp; done)) | (focus (simp; omega))))⟩
                case measure => simp [intOf]; omega
              | true =>
                have HG : Hid (wkF c a b s m (k + 1) = wkF c a b s m k + (min (b k) m - a k)) := wk_yes (by rw [str_beq] at e0; exact of_decide_eq_true e0) (of_decide_eq_true e1)
                go_wp2_with fail
                all_goals
                  go_roundw
                  case rel => exact ⟨k + 1, by omega, by go_num, by rw [HG.out]; congr 1; omega, (by repeat (first | (with_reducible exact Below.refl _ _) | (with_reducible refine below_ov ?_ ?_) | (with_reducible refine Below.setCell ?_ ?_ _) | (with_reducible refine Below.alloc ?_ ?_ _) | (with_reducible refine Below.drew ?_) | (with_reducible refine below_drewN ?_ _) | (refine Below.trans ?_ (Below.mono ‹Below _ _ _› (by first | omega | (simp; done) | (simp; omega)))) | exact Below.refl _ _ | omega | (focus (simp; done)) | (focus (simp; omega))))⟩
                  case measure => simp [intOf]; omega
          · obtain rfl : k = n := by omega
            go_wp2_with fail
            go_ret2
            exact ⟨ret_ib (by rw [wkN, HX.out]; rfl) HX.out.symm, hb⟩
set_option maxRecDepth 100000 in
set_option maxHeartbeats 1600000 in
theorem WorkedBy_spec (c : Nat → ByteArray) (a b : Nat → Int) (n : Nat) (s : ByteArray) (m : Int) (lo hi : Nat) (v : Value) (w : World) (hv : Sl w lo hi 3 v n (siiC c a b)) (hhi : hi ≤ w.heap.size) (hf : pfits c n) (hs : s.size ≤ maxLen) :
    Calls Try.prog 18 #[v, .string s, .int .i64 m] w fun e w' => e = .returned (.tuple #[.int .i64 (wkN c a b n s m), .bool (askP c a b n s m)]) ∧ Below w.heap.size w w' := by
  obtain ⟨A, cap, rfl, hcap, hA⟩ := hv.open_
  have hn := hf.1
  cases hx : askP c a b n s m with
  | false =>
    have HX := hide hx
    go_enter Try.func18, Try.ntmps18
    go_wp2_with (go_at_call 44; refine (rfAsked_any c a b n s m lo hi _ _ hv hhi hf hs).mono ?_; rintro e w1 ⟨rfl, hb1⟩; have hz1 := hb1.size; (try (simp at hz1)); obtain ⟨hcw1, hfw1⟩ := bcell hb1; (try (have hy1 : w.heap.size < w1.heap.size := by omega)); (try (have hyy1 : w.heap.size + 1 < w1.heap.size := by omega)); (try (have hyyy1 : w.heap.size + 1 + 1 < w1.heap.size := by omega)))
    go_ret2
    exact ⟨ret_ib (by rw [wkN, HX.out]; rfl) rfl, (by repeat (first | (with_reducible exact Below.refl _ _) | (with_reducible refine below_ov ?_ ?_) | (with_reducible refine Below.setCell ?_ ?_ _) | (with_reducible refine Below.alloc ?_ ?_ _) | (with_reducible refine Below.drew ?_) | (with_reducible refine below_drewN ?_ _) | (refine Below.trans ?_ (Below.mono ‹Below _ _ _› (by first | omega | (simp; done) | (simp; omega)))) | exact Below.refl _ _ | omega | (focus (simp; done)) | (focus (simp; omega))))⟩
  | true =>
    have HX := hide hx
    have HP := hide (ask_facts hx).1
    have hm := (ask_facts hx).2
    go_enter Try.func18, Try.ntmps18
    go_wp2_with (go_at_call 44; refine (rfAsked_any c a b n s m lo hi _ _ hv hhi hf hs).mono ?_; rintro e w1 ⟨rfl, hb1⟩; have hz1 := hb1.size; (try (simp at hz1)); obtain ⟨hcw1, hfw1⟩ := bcell hb1; (try (have hy1 : w.heap.size < w1.heap.size := by omega)); (try (have hyy1 : w.heap.size + 1 < w1.heap.size := by omega)); (try (have hyyy1 : w.heap.size + 1 + 1 < w1.heap.size := by omega)))
    have hb0 := hb1
    go_loopw [8, 18] (fun x i wr => ∃ k : Nat, k ≤ n ∧ i = .int .i64 k ∧ x = .int .i64 (wkF c a b s m k) ∧ Below w.heap.size w wr) (fun _ i _ => n - (intOf i).toNat)
    case atStart => exact ⟨0, by omega, rfl, rfl, hb0⟩
    case round =>
      obtain ⟨k, hk, rfl, rfl, hb⟩ := hrel
      have hzr := hb.size
      have hw := wk_bd (s := s) (m := m) HP.out (by omega) (by omega) k hk
      by_cases hkn : k < n
      · obtain ⟨blk, off, rfl, h1, h2, h3⟩ := (hA.below hb (by omega)) (by omega)
        have c0 : wr.cell? ⟨blk, off + k * 3, none⟩ = some (.string (c k)) := h3 k 0 hkn (by omega)
        have c1 : wr.cell? ⟨blk, off + k * 3 + 1, none⟩ = some (.int .i64 (a k)) := h3 k 1 hkn (by omega)
        have c2 : wr.cell? ⟨blk, off + k * 3 + 2, none⟩ = some (.int .i64 (b k)) := h3 k 2 hkn (by omega)
        clear h3 hA
        have hpk := (perB_iff.1 ((pd_facts HP.out).2 k hkn).1).2
        cases e0 : ((c k).toList == s.toList) with
        | false =>
          have HG : Hid (wkF c a b s m (k + 1) = wkF c a b s m k) := wk_no fun h => by rw [str_beq, h.1] at e0; simp at e0
          go_wp2_with fail
          go_roundw
          case rel => exact ⟨k + 1, by omega, by go_num, by rw [HG.out], (by repeat (first | (with_reducible exact Below.refl _ _) | (with_reducible refine below_ov ?_ ?_) | (with_reducible refine Below.setCell ?_ ?_ _) | (with_reducible refine Below.alloc ?_ ?_ _) | (with_reducible refine Below.drew ?_) | (with_reducible refine below_drewN ?_ _) | (refine Below.trans ?_ (Below.mono ‹Below _ _ _› (by first | omega | (simp; done) | (simp; omega)))) | exact Below.refl _ _ | omega | (focus (simp; done)) | (focus (simp; omega))))⟩
          case measure => simp [intOf]; omega
        | true =>
          cases e1 : decide (a k < m) with
          | false =>
            have HG : Hid (wkF c a b s m (k + 1) = wkF c a b s m k) := wk_no fun h => of_decide_eq_false e1 h.2
            go_wp2_with fail
            go_roundw
            case rel => exact ⟨k + 1, by omega, by go_num, by rw [HG.out], (by repeat (first | (with_reducible exact Below.refl _ _) | (with_reducible refine below_ov ?_ ?_) | (with_reducible refine Below.setCell ?_ ?_ _) | (with_reducible refine Below.alloc ?_ ?_ _) | (with_reducible refine Below.drew ?_) | (with_reducible refine below_drewN ?_ _) | (refine Below.trans ?_ (Below.mono ‹Below _ _ _› (by first | omega | (simp; done) | (simp; omega)))) | exact Below.refl _ _ | omega | (focus (simp; done)) | (focus (simp; omega))))⟩
            case measure => simp [intOf]; omega
          | true =>
            have HG : Hid (wkF c a b s m (k + 1) = wkF c a b s m k + (min (b k) m - a k)) := wk_yes (by rw [str_beq] at e0; exact of_decide_eq_true e0) (of_decide_eq_true e1)
            go_wp2_with fail
            go_quiet ((go_at_call 45; first | exact quiet_left (l1Least_any _ _ _) | exact quiet_add_left (l1Least_any _ _ _)))
            go_wp2_with fail
            go_roundw
            case rel => exact ⟨k + 1, by omega, by go_num, by rw [HG.out]; congr 1; omega, (by repeat (first | (with_reducible exact Below.refl _ _) | (with_reducible refine below_ov ?_ ?_) | (with_reducible refine Below.setCell ?_ ?_ _) | (with_reducible refine Below.alloc ?_ ?_ _) | (with_reducible refine Below.drew ?_) | (with_reducible refine below_drewN ?_ _) | (refine Below.trans ?_ (Below.mono ‹Below _ _ _› (by first | omega | (simp; done) | (simp; omega)))) | exact Below.refl _ _ | omega | (focus (simp; done)) | (focus (simp; omega))))⟩
            case measure => simp [intOf]; omega
      · obtain rfl : k = n := by omega
        go_wp2_with fail
        go_ret2
        exact ⟨ret_ib (by rw [wkN, HX.out]; rfl) rfl, hb⟩

end Go.Proofs.Ytejeohcddaphcaa
