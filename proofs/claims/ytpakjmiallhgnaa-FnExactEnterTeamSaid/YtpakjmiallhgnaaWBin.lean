/-
  Walks: the binary search for a team's name.
-/
import Derived.Test.YtpakjmiallhgnaaWFind
import Derived.Lib.Bytealg
import Derived.Lib.Walk
namespace Go.Proofs.Ytpakjmiallhgnaa
set_option linter.unusedVariables false
set_option linter.unusedSimpArgs false
open Go.RowKit

theorem cmpB_eq : ∀ (a b : List UInt8), Lib.compareBytes a b = if Op.bytesLess a b = true then -1 else if a = b then 0 else 1
  | [], [] => by simp [Lib.compareBytes, Op.bytesLess]
  | [], _ :: _ => by simp [Lib.compareBytes, Op.bytesLess]
  | _ :: _, [] => by simp [Lib.compareBytes, Op.bytesLess]
  | a :: x, b :: y => by
    have ih := cmpB_eq x y
    simp only [Lib.compareBytes, Op.bytesLess, Bool.or_eq_true, decide_eq_true_eq, Bool.and_eq_true, beq_iff_eq, List.cons.injEq]
    by_cases h1 : a < b
    · simp [h1]
    · by_cases h2 : b < a
      · have : ¬ a = b := fun e => by subst e; exact h1 h2
        simp [h1, h2, this]
      · have : a = b := UInt8.le_antisymm (UInt8.not_lt.1 h2) (UInt8.not_lt.1 h1)
        subst this
        simp only [h1, false_or, true_and, if_false]
        exact ih
theorem cmpS_eq (a b : ByteArray) : Lib.compareBytes a.data.toList b.data.toList = cmpS a b := by
  rw [cmpB_eq, cmpS, ltS, ByteArray.toList_eq, ByteArray.toList_eq]
  congr 1
  by_cases h : a = b
  · subst h; simp
  · rw [if_neg h, if_neg (fun e => h (WideShapes.bytes_inj e))]
set_option maxHeartbeats 1000000 in
set_option maxRecDepth 100000 in
theorem CompareString_any (a b : ByteArray) (w : World) :
    Calls Try.prog 132 #[.string a, .string b] w fun e w' => e = .returned (.int .i64 (cmpS a b)) ∧ w = w' := by
  go_enter Try.func132, Try.ntmps132
  go_wp2
  rw [run_callFunc_extern Try.func138 (by kernel_rfl) (by kernel_rfl) (by kernel_rfl) (e := Extern.BytealgCompare.compare) (by kernel_rfl), Lib.run_compareString, cmpS_eq]
  simp only [Result.andThen]
  rw [Oper.upon_value]
  go_wp2
  go_ret
  exact ⟨rfl, rfl⟩
set_option maxHeartbeats 1000000 in
theorem Compare_any (a b : ByteArray) (w : World) :
    Calls Try.prog 106 #[.string a, .string b] w fun e w' => e = .returned (.int .i64 (cmpS a b)) ∧ w = w' := by
  go_enter Try.func106, Try.ntmps106
  go_wp2_with (go_at_call 132; refine (CompareString_any _ _ _).mono ?_; rintro e w' ⟨rfl, rfl⟩)
  go_ret
  exact ⟨rfl, rfl⟩
set_option maxHeartbeats 1000000 in
theorem EnterTeam1_any (X Y : Tm) (A B : Option Addr) (n m c d : Nat) (w : World) :
    Calls Try.prog 105 #[.agg #[.string X.s, .int .i64 X.v, .int .i64 X.y, .slice A n c], .agg #[.string Y.s, .int .i64 Y.v, .int .i64 Y.y, .slice B m d]] w fun e w' => e = .returned (.int .i64 (cmpS X.s Y.s)) ∧ Below w.heap.size w w' := by
  go_enter Try.func105, Try.ntmps105
  go_wp2_with (go_at_call 106; refine (Compare_any _ _ _).mono ?_; rintro e w' ⟨rfl, rfl⟩)
  go_ret
  exact ⟨rfl, (by repeat (first | (with_reducible exact Below.refl _ _) | (with_reducible refine below_ov ?_ ?_) | (with_reducible refine Below.setCell ?_ ?_ _) | (with_reducible refine Below.alloc ?_ ?_ _) | (with_reducible refine Below.drew ?_) | (with_reducible refine below_drewN ?_ _) | (refine Below.trans ?_ (Below.mono ‹Below _ _ _› (by first | omega | (simp; done) | (simp; omega)))) | exact Below.refl _ _ | omega | (focus (simp; done)) | (focus (simp; omega))))⟩
theorem EnterTeam1_at {r : Int} (X Y : Tm) (hr : cmpS X.s Y.s = r) (A B : Option Addr) (n m c d : Nat) (w : World) :
    Calls Try.prog 105 #[.agg #[.string X.s, .int .i64 X.v, .int .i64 X.y, .slice A n c], .agg #[.string Y.s, .int .i64 Y.v, .int .i64 Y.y, .slice B m d]] w fun e w' => e = .returned (.int .i64 r) ∧ Below w.heap.size w w' := hr ▸ EnterTeam1_any X Y A B n m c d w
set_option maxRecDepth 100000 in
set_option maxHeartbeats 1600000 in
theorem BinT_any (T : Nat → Tm) (n : Nat) (Y : Tm) (vy : Value) (lo hi : Nat) (v : Value) (w : World) (hv : SlT w lo hi v n T) (hhi : hi ≤ w.heap.size) (hb : bdB T n = true) (hvy : ∃ A m c, vy = .slice A m c) :
    Calls Try.prog 104 #[v, .agg #[.string Y.s, .int .i64 Y.v, .int .i64 Y.y, vy], .func (.func 105) #[] #[]] w fun e w' => e = .returned (.tuple #[.int .i64 (fdK T n Y.s), .bool (fdB T n Y.s)]) ∧ Below w.heap.size w w' := by
  obtain ⟨B, m, c, rfl⟩ := hvy
  obtain ⟨A, cap, rfl, hcap⟩ := hv.open_
  have hn6 := (bd_facts hb).1
  have HB := hide hb
  clear hb
  go_enter Try.func104, Try.ntmps104
  go_wp2_with fail
  go_loopw [9, 10] (fun a b wr => ∃ i j : Nat, i ≤ j ∧ j ≤ n ∧ a = .int .i64 i ∧ b = .int .i64 j ∧ Hid (∀ q, q < i → ltS (T q).s Y.s = true) ∧ Hid (∀ q, j ≤ q → q < n → ltS (T q).s Y.s = false) ∧ Below (w.heap.size + 1) (w.alloc (.cells #[.string Y.s, .int .i64 Y.v, .int .i64 Y.y, .slice B m c] 40)) wr) (fun a b _ => (intOf b).toNat - (intOf a).toNat)
  case atStart => exact ⟨0, n, by omega, by omega, rfl, rfl, fun q h => by omega, fun q h h' => by omega, Below.refl _ _⟩
  case round =>
    obtain ⟨i, j, hij, hjn, rfl, rfl, hl, hr, hbw⟩ := hrel
    have hzr := hbw.size
    (try (simp at hzr))
    have y0 : wr.cell? ⟨w.heap.size, 0, none⟩ = some (.string Y.s) := (hbw.cell (p := ⟨w.heap.size, 0, none⟩) (by show w.heap.size < _; omega)).trans (World.cell?_alloc_new _ _ _ _)
    have y1 : wr.cell? ⟨w.heap.size, 1, none⟩ = some (.int .i64 Y.v) := (hbw.cell (p := ⟨w.heap.size, 1, none⟩) (by show w.heap.size < _; omega)).trans (World.cell?_alloc_new _ _ _ _)
    have y2 : wr.cell? ⟨w.heap.size, 2, none⟩ = some (.int .i64 Y.y) := (hbw.cell (p := ⟨w.heap.size, 2, none⟩) (by show w.heap.size < _; omega)).trans (World.cell?_alloc_new _ _ _ _)
    have y3 : wr.cell? ⟨w.heap.size, 3, none⟩ = some (.slice B m c) := (hbw.cell (p := ⟨w.heap.size, 3, none⟩) (by show w.heap.size < _; omega)).trans (World.cell?_alloc_new _ _ _ _)
    have ly : w.heap.size < wr.heap.size := by omega
    have hbr : Below w.heap.size w wr := ((Below.refl _ _).alloc (Nat.le_refl _) _).trans (hbw.mono (by omega))
    by_cases hlt : i < j
    · obtain ⟨h, eh⟩ : ∃ h : Nat, ((i : Int) + (j : Int)) / 2 = (h : Int) := ⟨(i + j) / 2, by omega⟩
      have h1 : i ≤ h := by omega
      have h2 : h < j := by omega
      obtain ⟨blk, off, dk, rfl, g1, g2, g3⟩ := (hv.below hbr hhi).at_ (by omega) (by omega)
      obtain ⟨t1, t2, t3, t4, t5, t6, t7⟩ := g3 h (by omega)
      clear g3
      obtain ⟨Ak, ckk, ek, _, _⟩ := t6.open_
      rw [ek] at t5
      clear t6
      have l0 : blk < wr.heap.size := by omega
      cases e1 : ltS (T h).s Y.s with
      | true =>
        have HC : Hid (cmpS (T h).s Y.s = -1) := by show _ = _; rw [cmpS, if_pos e1]
        have HL : Hid (∀ q, q < h + 1 → ltS (T q).s Y.s = true) := fun q hq => by
          rcases Nat.lt_or_ge q h with h3 | h3
          · exact ltS_trans (bd_lt HB.out h3 (by omega)) e1
          · obtain rfl : q = h := by omega
            exact e1
        go_wp2_with fail
        (refine wp_region_below_lit (by kernel_rfl) (by kernel_rfl) ?_; (repeat (first | go_big_quiet_step ((go_at_call 105; exact quiet_ov (EnterTeam1_at (T h) Y HC.out _ _ _ _ _ _ _))) | quiet_step ((go_at_call 105; exact quiet_ov (EnterTeam1_at (T h) Y HC.out _ _ _ _ _ _ _))))); refine wpQuiet_nil ?_; intro w6 hb6; have hz6 := hb6.size; (try (simp at hz6)); obtain ⟨hcw6, hfw6⟩ := bcell hb6; (try (have hy6 : w.heap.size < w6.heap.size := by omega)); (try (have hyy6 : w.heap.size + 1 < w6.heap.size := by omega)))
        go_wp2_with fail
        go_roundw
        case rel => exact ⟨h + 1, j, by omega, by omega, by go_num, rfl, HL, hr, hbw.trans (hb6.mono (by omega))⟩
        case measure => simp [intOf]; omega
      | false =>
        obtain ⟨r, hrr⟩ : ∃ r : Int, cmpS (T h).s Y.s = r := ⟨_, rfl⟩
        have hr0 : ¬ r < 0 := by rw [← hrr, cmpS, e1]; simp; split <;> omega
        have hd : decide (r < 0) = false := decide_eq_false hr0
        have HC := hide hrr
        have HR : Hid (∀ q, h ≤ q → q < n → ltS (T q).s Y.s = false) := fun q hq hqn => by
          rcases Nat.lt_or_ge h q with h3 | h3
          · cases e2 : ltS (T q).s Y.s with
            | false => rfl
            | true => rw [← e1, ltS_trans (bd_lt HB.out h3 hqn) e2]
          · obtain rfl : q = h := by omega
            exact e1
        clear hrr
        go_wp2_with fail
        (refine wp_region_below_lit (by kernel_rfl) (by kernel_rfl) ?_; (repeat (first | go_big_quiet_step ((go_at_call 105; exact quiet_ov (EnterTeam1_at (T h) Y HC.out _ _ _ _ _ _ _))) | quiet_step ((go_at_call 105; exact quiet_ov (EnterTeam1_at (T h) Y HC.out _ _ _ _ _ _ _))))); refine wpQuiet_nil ?_; intro w6 hb6; have hz6 := hb6.size; (try (simp at hz6)); obtain ⟨hcw6, hfw6⟩ := bcell hb6; (try (have hy6 : w.heap.size < w6.heap.size := by omega)); (try (have hyy6 : w.heap.size + 1 < w6.heap.size := by omega)))
        go_wp2_with fail
        go_roundw
        case rel => exact ⟨i, h, by omega, by omega, rfl, by go_num, hl, HR, hbw.trans (hb6.mono (by omega))⟩
        case measure => simp [intOf]; omega
    · obtain rfl : i = j := by omega
      have hK : fdK T n Y.s = i := lead_eq hjn hl.out (by
        rcases Nat.lt_or_ge i n with h3 | h3
        · exact .inr (hr.out i (Nat.le_refl _) h3)
        · exact .inl (by omega))
      have HK := hide hK
      by_cases hin : i < n
      · obtain ⟨blk, off, dk, rfl, g1, g2, g3⟩ := (hv.below hbr hhi).at_ (by omega) (by omega)
        obtain ⟨t1, t2, t3, t4, t5, t6, t7⟩ := g3 i hin
        clear g3
        obtain ⟨Ak, ckk, ek, _, _⟩ := t6.open_
        rw [ek] at t5
        clear t6
        have l0 : blk < wr.heap.size := by omega
        have d1 : decide ((i : Int) < (n : Int)) = true := decide_eq_true (by omega)
        have e1 := hr.out i (Nat.le_refl _) hin
        cases e2 : nmP T Y.s i with
        | true =>
          have HC : Hid (cmpS (T i).s Y.s = 0) := by show _ = _; rw [cmpS, e1, nmP_iff.1 e2]; simp
          have HF : Hid (fdB T n Y.s = true) := by show _ = _; rw [fdB, hK]; simp [hin, e2]
          clear hK e1
          go_wp2_with fail
          (refine wp_region_below_lit (by kernel_rfl) (by kernel_rfl) ?_; (repeat (first | go_big_quiet_step ((go_at_call 105; exact quiet_ov (EnterTeam1_at (T i) Y HC.out _ _ _ _ _ _ _))) | quiet_step ((go_at_call 105; exact quiet_ov (EnterTeam1_at (T i) Y HC.out _ _ _ _ _ _ _))))); refine wpQuiet_nil ?_; intro w6 hb6; have hz6 := hb6.size; (try (simp at hz6)); obtain ⟨hcw6, hfw6⟩ := bcell hb6; (try (have hy6 : w.heap.size < w6.heap.size := by omega)); (try (have hyy6 : w.heap.size + 1 < w6.heap.size := by omega)))
          go_wp2_with fail
          go_ret2
          rw [HK.out, HF.out]
          exact ⟨rfl, hbr.trans (hb6.mono (by omega))⟩
        | false =>
          have HC : Hid (cmpS (T i).s Y.s = 1) := by
            show _ = _
            rw [cmpS, e1, if_neg (by simp), if_neg (fun e => by rw [nmP_iff.2 e] at e2; cases e2)]
          have HF : Hid (fdB T n Y.s = false) := by show _ = _; rw [fdB, hK]; simp [e2]
          clear hK e1
          go_wp2_with fail
          (refine wp_region_below_lit (by kernel_rfl) (by kernel_rfl) ?_; (repeat (first | go_big_quiet_step ((go_at_call 105; exact quiet_ov (EnterTeam1_at (T i) Y HC.out _ _ _ _ _ _ _))) | quiet_step ((go_at_call 105; exact quiet_ov (EnterTeam1_at (T i) Y HC.out _ _ _ _ _ _ _))))); refine wpQuiet_nil ?_; intro w6 hb6; have hz6 := hb6.size; (try (simp at hz6)); obtain ⟨hcw6, hfw6⟩ := bcell hb6; (try (have hy6 : w.heap.size < w6.heap.size := by omega)); (try (have hyy6 : w.heap.size + 1 < w6.heap.size := by omega)))
          go_wp2_with fail
          go_ret2
          rw [HK.out, HF.out]
          exact ⟨rfl, hbr.trans (hb6.mono (by omega))⟩
      · have d1 : decide ((i : Int) < (n : Int)) = false := decide_eq_false (by omega)
        have HF : Hid (fdB T n Y.s = false) := by show _ = _; rw [fdB, hK]; simp [hin]
        clear hK
        go_wp2_with fail
        (refine wp_region_below_lit (by kernel_rfl) (by kernel_rfl) ?_; (repeat (first | go_big_quiet_step ((fail)) | quiet_step ((fail)))); refine wpQuiet_nil ?_; intro w6 hb6; have hz6 := hb6.size; (try (simp at hz6)); obtain ⟨hcw6, hfw6⟩ := bcell hb6; (try (have hy6 : w.heap.size < w6.heap.size := by omega)); (try (have hyy6 : w.heap.size + 1 < w6.heap.size := by omega)))
        go_wp2_with fail
        go_ret2
        rw [HK.out, HF.out]
        exact ⟨rfl, hbr.trans (hb6.mono (by omega))⟩

end Go.Proofs.Ytpakjmiallhgnaa
