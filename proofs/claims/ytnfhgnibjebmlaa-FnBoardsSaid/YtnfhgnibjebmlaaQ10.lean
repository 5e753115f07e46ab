/-
  Texts of this proof, one behind the other (part 10).
-/
import Derived.Test.YtnfhgnibjebmlaaQ9
import Derived.Lib.Bytealg
import Derived.Lib.Walk
import Derived.BigRegion
/-
  Walks: the binary search for a team's name.-/
namespace Go.Proofs.Ytnfhgnibjebmlaa
set_option linter.unusedVariables false
set_option linter.unusedSimpArgs false
open Go.RowKit

theorem cmpB_eq : ∀ (a b : List UInt8), Lib.compareBytes a b = if Op.bytesLess a b = true then -1 else if a = b then 0 else 1
  | [], [] => by simp [Lib.compareBytes, Op.bytesLess]
  | [], _ :: _ => by simp [Lib.compareBytes, Op.bytesLess]
  | _ :: _, [] => by simp [Lib.compareBytes, Op.bytesLess]
  | a :: x, b :: y => by
    have ih := cmpB_eq x y
    simp only [Lib.compareBytes, Op.bytesLess, Bool.or_eq_true, decide_eq_true_eq, Bool.and_eq_true, beq_iff_eq, List.cons.injEq]
    by_cases h1 : a < b
    · simp [h1]
    · by_cases h2 : b < a
      · have : ¬ a = b := fun e => by subst e; exact h1 h2
        simp [h1, h2, this]
      · have : a = b := UInt8.le_antisymm (UInt8.not_lt.1 h2) (UInt8.not_lt.1 h1)
        subst this
        simp only [h1, false_or, true_and, if_false]
        exact ih
theorem cmpS_eq (a b : ByteArray) : Lib.compareBytes a.data.toList b.data.toList = cmpS a b := by
  rw [cmpB_eq, cmpS, ltS, ByteArray.toList_eq, ByteArray.toList_eq]
  congr 1
  by_cases h : a = b
  · subst h; simp
  · rw [if_neg h, if_neg (fun e => h (WideShapes.bytes_inj e))]
set_option maxHeartbeats 1000000 in
set_option maxRecDepth 100000 in
theorem CompareString_any (a b : ByteArray) (w : World) :
    Calls Try.prog 65 #[.string a, .string b] w fun e w' => e = .returned (.int .i64 (cmpS a b)) ∧ w = w' := by
  go_enter Try.func65, Try.ntmps65
  go_wp2
  rw [run_callFunc_extern Try.func83 (by kernel_rfl) (by kernel_rfl) (by kernel_rfl) (e := Extern.BytealgCompare.compare) (by kernel_rfl), Lib.run_compareString, cmpS_eq]
  simp only [Result.andThen]
  rw [Oper.upon_value]
  go_wp2
  go_ret
  exact ⟨rfl, rfl⟩
set_option maxHeartbeats 1000000 in
theorem Compare_any (a b : ByteArray) (w : World) :
    Calls Try.prog 36 #[.string a, .string b] w fun e w' => e = .returned (.int .i64 (cmpS a b)) ∧ w = w' := by
  go_enter Try.func36, Try.ntmps36
  go_wp2_with (go_at_call 65; refine (CompareString_any _ _ _).mono ?_; rintro e w' ⟨rfl, rfl⟩)
  go_ret
  exact ⟨rfl, rfl⟩
set_option maxHeartbeats 1000000 in
theorem EnterTeam1_any (X Y : Tm) (A B : Option Addr) (n m c d : Nat) (w : World) :
    Calls Try.prog 35 #[.agg #[.string X.s, .int .i64 X.v, .int .i64 X.y, .slice A n c], .agg #[.string Y.s, .int .i64 Y.v, .int .i64 Y.y, .slice B m d]] w fun e w' => e = .returned (.int .i64 (cmpS X.s Y.s)) ∧ Below w.heap.size w w' := by
  go_enter Try.func35, Try.ntmps35
  go_wp2_with (go_at_call 36; refine (Compare_any _ _ _).mono ?_; rintro e w' ⟨rfl, rfl⟩)
  go_ret
  exact ⟨rfl, (by repeat (first | (with_reducible exact Below.refl _ _) | (with_reducible refine below_ov ?_ ?_) | (with_reducible refine Below.setCell ?_ ?_ _) | (with_reducible refine Below.alloc ?_ ?_ _) | (with_reducible refine Below.drew ?_) | (with_reducible refine below_drewN ?_ _) | (refine Below.trans ?_ (Below.mono ‹Below _ _ _› (by first | omega | (simp; done) | (simp; omega)))) | exact Below.refl _ _ | omega | (focus (simp; done)) | (focus (simp; omega))))⟩
theorem EnterTeam1_at {r : Int} (X Y : Tm) (hr : cmpS X.s Y.s = r) (A B : Option Addr) (n m c d : Nat) (w : World) :
    Calls Try.prog 35 #[.agg #[.string X.s, .int .i64 X.v, .int .i64 X.y, .slice A n c], .agg #[.string Y.s, .int .i64 Y.v, .int .i64 Y.y, .slice B m d]] w fun e w' => e = .returned (.int .i64 r) ∧ Below w.heap.size w w' := hr ▸ EnterTeam1_any X Y A B n m c d w
set_option maxRecDepth 100000 in
set_option maxHeartbeats 1600000 in
theorem BinT_any (T : Nat → Tm) (n : Nat) (Y : Tm) (vy : Value) (lo hi : Nat) (v : Value) (w : World) (hv : SlT w lo hi v n T) (hhi : hi ≤ w.heap.size) (hb : bdB T n = true) (hvy : ∃ A m c, vy = .slice A m c) :
    Calls Try.prog 34 #[v, .agg #[.string Y.s, .int .i64 Y.v, .int .i64 Y.y, vy], .func (.func 35) #[] #[]] w fun e w' => e = .returned (.tuple #[.int .i64 (fdK T n Y.s), .bool (fdB T n Y.s)]) ∧ Below w.heap.size w w' := by
  obtain ⟨B, m, c, rfl⟩ := hvy
  obtain ⟨A, cap, rfl, hcap⟩ := hv.open_
  have hn6 := (bd_facts hb).1
  have HB := hide hb
  clear hb
  go_enter Try.func34, Try.ntmps34
  go_wp2_with fail
  go_loopw [9, 10] (fun a b wr => ∃ i j : Nat, i ≤ j ∧ j ≤ n ∧ a = .int .i64 i ∧ b = .int .i64 j ∧ Hid (∀ q, q < i → ltS (T q).s Y.s = true) ∧ Hid (∀ q, j ≤ q → q < n → ltS (T q).s Y.s = false) ∧ Below (w.heap.size + 1) (w.alloc (.cells #[.string Y.s, .int .i64 Y.v, .int .i64 Y.y, .slice B m c] 27)) wr) (fun a b _ => (intOf b).toNat - (intOf a).toNat)
  case atStart => exact ⟨0, n, by omega, by omega, rfl, rfl, fun q h => by omega, fun q h h' => by omega, Below.refl _ _⟩
  case round =>
    obtain ⟨i, j, hij, hjn, rfl, rfl, hl, hr, hbw⟩ := hrel
    have hzr := hbw.size
    (try (simp at hzr))
    have y0 : wr.cell? ⟨w.heap.size, 0, none⟩ = some (.string Y.s) := (hbw.cell (p := ⟨w.heap.size, 0, none⟩) (by show w.heap.size < _; omega)).trans (World.cell?_alloc_new _ _ _ _)
    have y1 : wr.cell? ⟨w.heap.size, 1, none⟩ = some (.int .i64 Y.v) := (hbw.cell (p := ⟨w.heap.size, 1, none⟩) (by show w.heap.size < _; omega)).trans (World.cell?_alloc_new _ _ _ _)
    have y2 : wr.cell? ⟨w.heap.size, 2, none⟩ = some (.int .i64 Y.y) := (hbw.cell (p := ⟨w.heap.size, 2, none⟩) (by show w.heap.size < _; omega)).trans (World.cell?_alloc_new _ _ _ _)
    have y3 : wr.cell? ⟨w.heap.size, 3, none⟩ = some (.slice B m c) := (hbw.cell (p := ⟨w.heap.size, 3, none⟩) (by show w.heap.size < _; omega)).trans (World.cell?_alloc_new _ _ _ _)
    have ly : w.heap.size < wr.heap.size := by omega
    have hbr : Below w.heap.size w wr := ((Below.refl _ _).alloc (Nat.le_refl _) _).trans (hbw.mono (by omega))
    by_cases hlt : i < j
    · obtain ⟨h, eh⟩ : ∃ h : Nat, ((i : Int) + (j : Int)) / 2 = (h : Int) := ⟨(i + j) / 2, by omega⟩
      have h1 : i ≤ h := by omega
      have h2 : h < j := by omega
      obtain ⟨blk, off, dk, rfl, g1, g2, g3⟩ := (hv.below hbr hhi).at_ (by omega) (by omega)
      obtain ⟨t1, t2, t3, t4, t5, t6, t7⟩ := g3 h (by omega)
      clear g3
      obtain ⟨Ak, ckk, ek, _, _⟩ := t6.open_
      rw [ek] at t5
      clear t6
      have l0 : blk < wr.heap.size := by omega
      cases e1 : ltS (T h).s Y.s with
      | true =>
        have HC : Hid (cmpS (T h).s Y.s = -1) := by show _ = _; rw [cmpS, if_pos e1]
        have HL : Hid (∀ q, q < h + 1 → ltS (T q).s Y.s = true) := fun q hq => by
          rcases Nat.lt_or_ge q h with h3 | h3
          · exact ltS_trans (bd_lt HB.out h3 (by omega)) e1
          · obtain rfl : q = h := by omega
            exact e1
        go_wp2_with fail
        (refine wp_region_below_lit (by kernel_rfl) (by kernel_rfl) ?_; (repeat (first | go_big_quiet_step ((go_at_call 35; exact quiet_ov (EnterTeam1_at (T h) Y HC.out _ _ _ _ _ _ _))) | quiet_step ((go_at_call 35; exact quiet_ov (EnterTeam1_at (T h) Y HC.out _ _ _ _ _ _ _))))); refine wpQuiet_nil ?_; intro w6 hb6; have hz6 := hb6.size; (try (simp at hz6)); obtain ⟨hcw6, hfw6⟩ := bcell hb6; (try (have hy6 : w.heap.size < w6.heap.size := by omega)); (try (have hyy6 : w.heap.size + 1 < w6.heap.size := by omega)))
        go_wp2_with fail
        go_roundw
        case rel => exact ⟨h + 1, j, by omega, by omega, by go_num, rfl, HL, hr, hbw.trans (hb6.mono (by omega))⟩
        case measure => simp [intOf]; omega
      | false =>
        obtain ⟨r, hrr⟩ : ∃ r : Int, cmpS (T h).s Y.s = r := ⟨_, rfl⟩
        have hr0 : ¬ r < 0 := by rw [← hrr, cmpS, e1]; simp; split <;> omega
        have hd : decide (r < 0) = false := decide_eq_false hr0
        have HC := hide hrr
        have HR : Hid (∀ q, h ≤ q → q < n → ltS (T q).s Y.s = false) := fun q hq hqn => by
          rcases Nat.lt_or_ge h q with h3 | h3
          · cases e2 : ltS (T q).s Y.s with
            | false => rfl
            | true => rw [← e1, ltS_trans (bd_lt HB.out h3 hqn) e2]
          · obtain rfl : q = h := by omega
            exact e1
        clear hrr
        go_wp2_with fail
        (refine wp_region_below_lit (by kernel_rfl) (by kernel_rfl) ?_; (repeat (first | go_big_quiet_step ((go_at_call 35; exact quiet_ov (EnterTeam1_at (T h) Y HC.out _ _ _ _ _ _ _))) | quiet_step ((go_at_call 35; exact quiet_ov (EnterTeam1_at (T h) Y HC.out _ _ _ _ _ _ _))))); refine wpQuiet_nil ?_; intro w6 hb6; have hz6 := hb6.size; (try (simp at hz6)); obtain ⟨hcw6, hfw6⟩ := bcell hb6; (try (have hy6 : w.heap.size < w6.heap.size := by omega)); (try (have hyy6 : w.heap.size + 1 < w6.heap.size := by omega)))
        go_wp2_with fail
        go_roundw
        case rel => exact ⟨i, h, by omega, by omega, rfl, by go_num, hl, HR, hbw.trans (hb6.mono (by omega))⟩
        case measure => simp [intOf]; omega
    · obtain rfl : i = j := by omega
      have hK : fdK T n Y.s = i := lead_eq hjn hl.out (by
        rcases Nat.lt_or_ge i n with h3 | h3
        · exact .inr (hr.out i (Nat.le_refl _) h3)
        · exact .inl (by omega))
      have HK := hide hK
      by_cases hin : i < n
      · obtain ⟨blk, off, dk, rfl, g1, g2, g3⟩ := (hv.below hbr hhi).at_ (by omega) (by omega)
        obtain ⟨t1, t2, t3, t4, t5, t6, t7⟩ := g3 i hin
        clear g3
        obtain ⟨Ak, ckk, ek, _, _⟩ := t6.open_
        rw [ek] at t5
        clear t6
        have l0 : blk < wr.heap.size := by omega
        have d1 : decide ((i : Int) < (n : Int)) = true := decide_eq_true (by omega)
        have e1 := hr.out i (Nat.le_refl _) hin
        cases e2 : nmP T Y.s i with
        | true =>
          have HC : Hid (cmpS (T i).s Y.s = 0) := by show _ = _; rw [cmpS, e1, nmP_iff.1 e2]; simp
          have HF : Hid (fdB T n Y.s = true) := by show _ = _; rw [fdB, hK]; simp [hin, e2]
          clear hK e1
          go_wp2_with fail
          (refine wp_region_below_lit (by kernel_rfl) (by kernel_rfl) ?_; (repeat (first | go_big_quiet_step ((go_at_call 35; exact quiet_ov (EnterTeam1_at (T i) Y HC.out _ _ _ _ _ _ _))) | quiet_step ((go_at_call 35; exact quiet_ov (EnterTeam1_at (T i) Y HC.out _ _ _ _ _ _ _))))); refine wpQuiet_nil ?_; intro w6 hb6; have hz6 := hb6.size; (try (simp at hz6)); obtain ⟨hcw6, hfw6⟩ := bcell hb6; (try (have hy6 : w.heap.size < w6.heap.size := by omega)); (try (have hyy6 : w.heap.size + 1 < w6.heap.size := by omega)))
          go_wp2_with fail
          go_ret2
          rw [HK.out, HF.out]
          exact ⟨rfl, hbr.trans (hb6.mono (by omega))⟩
        | false =>
          have HC : Hid (cmpS (T i).s Y.s = 1) := by
            show _ = _
            rw [cmpS, e1, if_neg (by simp), if_neg (fun e => by rw [nmP_iff.2 e] at e2; cases e2)]
          have HF : Hid (fdB T n Y.s = false) := by show _ = _; rw [fdB, hK]; simp [e2]
          clear hK e1
          go_wp2_with fail
          (refine wp_region_below_lit (by kernel_rfl) (by kernel_rfl) ?_; (repeat (first | go_big_quiet_step ((go_at_call 35; exact quiet_ov (EnterTeam1_at (T i) Y HC.out _ _ _ _ _ _ _))) | quiet_step ((go_at_call 35; exact quiet_ov (EnterTeam1_at (T i) Y HC.out _ _ _ _ _ _ _))))); refine wpQuiet_nil ?_; intro w6 hb6; have hz6 := hb6.size; (try (simp at hz6)); obtain ⟨hcw6, hfw6⟩ := bcell hb6; (try (have hy6 : w.heap.size < w6.heap.size := by omega)); (try (have hyy6 : w.heap.size + 1 < w6.heap.size := by omega)))
          go_wp2_with fail
          go_ret2
          rw [HK.out, HF.out]
          exact ⟨rfl, hbr.trans (hb6.mono (by omega))⟩
      · have d1 : decide ((i : Int) < (n : Int)) = false := decide_eq_false (by omega)
        have HF : Hid (fdB T n Y.s = false) := by show _ = _; rw [fdB, hK]; simp [hin]
        clear hK
        go_wp2_with fail
        (refine wp_region_below_lit (by kernel_rfl) (by kernel_rfl) ?_; (repeat (first | go_big_quiet_step ((fail)) | quiet_step ((fail)))); refine wpQuiet_nil ?_; intro w6 hb6; have hz6 := hb6.size; (try (simp at hz6)); obtain ⟨hcw6, hfw6⟩ := bcell hb6; (try (have hy6 : w.heap.size < w6.heap.size := by omega)); (try (have hyy6 : w.heap.size + 1 < w6.heap.size := by omega)))
        go_wp2_with fail
        go_ret2
        rw [HK.out, HF.out]
        exact ⟨rfl, hbr.trans (hb6.mono (by omega))⟩

end Go.Proofs.Ytnfhgnibjebmlaa

/-
  Walks: one more check for a team of a board: plain words, and the program.-/
namespace Go.Proofs.Ytnfhgnibjebmlaa
set_option linter.unusedVariables false
set_option linter.unusedSimpArgs false
open Go.RowKit

/-- A team with one more check. -/
def adTm (T : Tm) (m b : Int) : Tm := ⟨T.s, T.v, T.y, T.n + 1, fun j => if j = T.n then m else T.m j, fun j => if j = T.n then b else T.b j⟩
def adW (T : Nat → Tm) (k : Nat) (m b : Int) (i : Nat) : Tm := if i = k then adTm (T i) m b else T i
def adT (T : Nat → Tm) (n : Nat) (s : ByteArray) (m b : Int) : Nat → Tm := adW T (fdK T n s) m b
def adC (T : Tm) (m b : Int) : Bool := chkB (adTm T m b).m (adTm T m b).b (T.n + 1)
def adOk (T : Nat → Tm) (n : Nat) (s : ByteArray) (m b : Int) : Bool := bdB T n && (fdB T n s && adC (T (fdK T n s)) m b)
def adN (T : Nat → Tm) (n : Nat) (s : ByteArray) (m b : Int) : Nat := if adOk T n s m b = true then n else 0
theorem adN_le {T : Nat → Tm} {n : Nat} {s : ByteArray} {m b : Int} (hf : tfits T n) : adN T n s m b ≤ n := by
  unfold adN
  split <;> omega
theorem adT_fits {T : Nat → Tm} {n : Nat} {s : ByteArray} {m b : Int} (hf : tfits T n) : tfits (adT T n s m b) (adN T n s m b) := by
  refine ⟨Nat.le_trans (adN_le hf) hf.1, fun i hi => ?_⟩
  unfold adN at hi
  split at hi
  · rename_i h
    simp only [adOk, Bool.and_eq_true] at h
    have h1 := (chk_facts h.2.2).1
    unfold adT adW
    split
    · rename_i e
      subst e
      exact ⟨(hf.2 _ hi).1, by show (T _).n + 1 ≤ _; omega⟩
    · exact hf.2 i hi
  · omega
/-- The board is valid anew just where the team's checks are. -/
theorem adW_bd {T : Nat → Tm} {n k : Nat} {m b : Int} (h : bdB T n = true) (hk : k < n) : bdB (adW T k m b) n = adC (T k) m b := by
  have hs : ∀ i, (adW T k m b i).s = (T i).s := fun i => by unfold adW; split <;> rfl
  have hb1 : ∀ i, i < n → i ≠ k → bd1 (adW T k m b) i = true := fun i hi hik => by
    have h1 := (bd_facts h).2 i hi
    have h2 : tmB (adW T k m b i) = true := by rw [adW, if_neg hik]; exact h1.1
    simp only [bd1, h2, hs, Bool.true_and, Bool.or_eq_true, decide_eq_true_eq]
    rcases Nat.eq_zero_or_pos i with h0 | h0
    · exact .inl h0
    · exact .inr (h1.2 h0)
  have hk1 : bd1 (adW T k m b) k = adC (T k) m b := by
    have h1 := (bd_facts h).2 k hk
    have h2 : tmB (adW T k m b k) = adC (T k) m b := by
      have h3 := h1.1
      rw [adW, if_pos rfl]
      simp only [tmB, Bool.and_eq_true] at h3
      show (nameB (T k).s && inB (T k).v 10 3000 && inB (T k).y 0 300 && adC (T k) m b) = _
      rw [h3.1.1.1, h3.1.1.2, h3.1.2]
      simp
    simp only [bd1, h2, hs]
    rcases Nat.eq_zero_or_pos k with h0 | h0
    · simp [h0]
    · simp [h1.2 h0]
  have hn6 : decide ((n : Int) ≤ 6) = true := decide_eq_true (by have := (bd_facts h).1; omega)
  rw [bdB, hn6, Bool.and_true]
  cases e : adC (T k) m b with
  | false => exact allB_false hk (hk1.trans e)
  | true =>
    refine allB_iff.2 fun i hi => ?_
    by_cases hik : i = k
    · rw [hik, hk1, e]
    · exact hb1 i hi hik
section
variable {w w' : World} {lo hi E sz n g : Nat} {v : Value} {c : Nat → Nat → Value} {xs : List Value}
theorem OwnL.rowL (h : OwnL w lo hi E sz v n (n * sz) (fun o => c (o / sz) (o % sz))) (hn : 0 < n) (hsz : 0 < sz) : w.ownsRow lo E sz v n (rowL c sz n) := by
  rcases h with ⟨h0, _⟩ | ⟨g, cap, xs, rfl, h1, h2, h3, h4, h5⟩
  · omega
  · have : xs = Go.Proofs.Ytnfhgnibjebmlaa.rowL c sz n := by
      apply List.ext_getElem?
      intro o
      rcases Nat.lt_or_ge o (n * sz) with ho | ho
      · rw [h5 o ho ho]
        have e2 := rowL_get c sz ((Nat.div_lt_iff_lt_mul hsz).2 ho) (Nat.mod_lt o hsz)
        rw [Nat.div_add_mod'] at e2
        exact e2.symm
      · rw [List.getElem?_eq_none (by rw [h4.1]; omega), List.getElem?_eq_none (by rw [rowL_len]; omega)]
    rw [← this]
    exact h4
theorem row_at (h : w.ownsRow lo E sz v n (rowL c sz n)) (hsz : 0 < sz) (hg : v.ownBlock = some g) : OwnL w g (g + 1) E sz v n (n * sz) (fun o => c (o / sz) (o % sz)) := by
  have h1 := (own_row h).lf hsz
  rcases h1 with h1 | ⟨g', cap, ys, rfl, a1, a2, a3, ⟨a4, a5⟩, a6⟩
  · exact .inl h1
  · injection hg with hg
    have hg : g' = g := hg
    subst hg
    rcases a5 with ⟨a5, _⟩ | ⟨x, y, cur, he, hb, hh, r⟩
    · cases a5
    · injection he with e1 e2 e3
      injection e1 with e1
      injection e1 with e1
      subst e1 e3
      exact .inr ⟨g', cap, ys, rfl, Nat.le_refl _, Nat.lt_succ_self _, a3, ⟨a4, .inr ⟨g', cap, cur, rfl, Nat.le_refl _, hh, r⟩⟩, a6⟩
end
theorem chk_snoc (T : Tm) (m b : Int) : Go.Proofs.Ytnfhgnibjebmlaa.rowL (iiC T.m T.b) 2 T.n ++ [.int .i64 m, .int .i64 b] = Go.Proofs.Ytnfhgnibjebmlaa.rowL (iiC (adTm T m b).m (adTm T m b).b) 2 (T.n + 1) := by
  rw [rowL]
  congr 1
  · refine rowL_congr fun i j hi hj => ?_
    have : ¬ i = T.n := by omega
    simp only [iiC, adTm, this, if_false]
  · simp [List.range, List.range.loop, iiC, adTm]
/-- The board behind the append onto the k-th team's checks, and the store. -/
theorem OwnX.added {w W w' : World} {g n cap k b' : Nat} {m b : Int} {u : Value} {β : Nat → Nat} {ck : Nat → Value} {T : Nat → Tm} (ho : OwnX w g β ck (.slice (some ⟨g, 0, none⟩) n cap) n T) (hkn : k < n)
    (hs : OwnL w' g (g + 1) 27 4 (.slice (some ⟨g, 0, none⟩) n cap) n (n * 4) (fun o => if o = k * 4 + 3 then u else tC T ck (o / 4) (o % 4)))
    (hu : OwnL w' b' (b' + 1) 56 2 u ((T k).n + 1) (((T k).n + 1) * 2) (fun o => iiC (adTm (T k) m b).m (adTm (T k) m b).b (o / 2) (o % 2)))
    (hg : b' ≠ g) (hb : ∀ i, i < n → i ≠ k → β i ≠ b') (hkeep : ∀ i, i < n → i ≠ k → w'.heap[β i]? = w.heap[β i]?) :
    OwnX w' g (fun i => if i = k then b' else β i) (fun i => if i = k then u else ck i) (.slice (some ⟨g, 0, none⟩) n cap) n (adW T k m b) where
  own := hs.congr fun o ho' => by
    obtain ⟨i, j, hj, rfl⟩ : ∃ i j, j < 4 ∧ o = i * 4 + j := ⟨o / 4, o % 4, by omega, by omega⟩
    have e1 : (i * 4 + j) / 4 = i := by omega
    have e2 : (i * 4 + j) % 4 = j := by omega
    rw [e1, e2]
    by_cases h1 : i = k
    · subst h1
      match j, hj with
      | 0, _ => simp [tC, adW, adTm]
      | 1, _ => simp [tC, adW, adTm]
      | 2, _ => simp [tC, adW, adTm]
      | 3, _ => simp [tC, adW, adTm]
    · have a1 : ¬ (i * 4 + j = k * 4 + 3) := by omega
      simp only [a1, if_false, tC, adW, h1]
  sub := fun i hi => by
    by_cases h1 : i = k
    · subst h1
      simp only [adW, if_true]
      exact hu
    · simp only [adW, h1, if_false]
      exact (ho.sub i hi).keep1 (hkeep i hi h1)
  ne := fun i hi => by
    by_cases h1 : i = k
    · simp only [h1, if_true]; exact hg
    · simp only [h1, if_false]; exact ho.ne i hi
  inj := fun i j hi hj hij => by
    by_cases h1 : i = k <;> by_cases h2 : j = k
    · omega
    · simp only [h1, h2, if_true, if_false]; exact (hb j hj h2).symm
    · simp only [h1, h2, if_true, if_false]; exact hb i hi h1
    · simp only [h1, h2, if_false]; exact ho.inj i j hi hj hij
theorem int2_one {a b : Int} {u : Value} (h : u ∈ [Value.int .i64 a, .int .i64 b]) : u.oneCell' = true := by
  simp at h
  rcases h with rfl | rfl <;> rfl
set_option maxRecDepth 100000 in
set_option maxHeartbeats 3200000 in
theorem AddCheck_impl (T : Nat → Tm) (n : Nat) (s : ByteArray) (m b : Int) (lo hi : Nat) (v : Value) (w : World) (hv : SlT w lo hi v n T) (hhi : hi ≤ w.heap.size) (hf : tfits T n) (hms : s.size ≤ maxLen) :
    Calls Try.prog 25 #[v, .string s, .int .i64 m, .int .i64 b] w (BrdRes (adT T n s m b) (adN T n s m b) (adOk T n s m b) w) := by
  obtain ⟨A, cap, rfl, hcap⟩ := hv.open_
  have hn : n ≤ 1048576 := hf.1
  cases hB : bdB T n with
  | false =>
    have HF : Hid (adOk T n s m b = false) := by show _ = _; simp [adOk, hB]
    have HN : Hid (adN T n s m b = 0) := by show _ = _; rw [adN, HF.out]; rfl
    go_enter Try.func25, Try.ntmps25
    go_wp2_with fail
    refine (findTeam_any T n s lo hi _ _ (hv.below (B := w.heap.size) (by repeat (first | (with_reducible exact Below.refl _ _) | (with_reducible refine below_ov ?_ ?_) | (with_reducible refine Below.setCell ?_ ?_ _) | (with_reducible refine Below.alloc ?_ ?_ _) | (with_reducible refine Below.drew ?_) | (with_reducible refine below_drewN ?_ _) | (refine Below.trans ?_ (Below.mono ‹Below _ _ _› (by first | omega | (simp; done) | (simp; omega)))) | exact Below.refl _ _ | omega | (focus (simp; done)) | (focus (simp; omega)))) hhi) hhi hn).mono ?_
    rintro e w1 ⟨rfl, hb1⟩
    have hz1 := hb1.size
    go_wp2_with fail
    refine (isBoard_any T n lo hi _ _ (hv.below (B := w.heap.size) (by repeat (first | (with_reducible exact Below.refl _ _) | (with_reducible refine below_ov ?_ ?_) | (with_reducible refine Below.setCell ?_ ?_ _) | (with_reducible refine Below.alloc ?_ ?_ _) | (with_reducible refine Below.drew ?_) | (with_reducible refine below_drewN ?_ _) | (refine Below.trans ?_ (Below.mono ‹Below _ _ _› (by first | omega | (simp; done) | (simp; omega)))) | exact Below.refl _ _ | omega | (focus (simp; done)) | (focus (simp; omega)))) hhi) (by first | omega | (simp; done) | (simp; omega)) hf).mono ?_
    rintro e w2 ⟨rfl, hb2⟩
    have hz2 := hb2.size
    rw [hB]
    go_wp2_with fail
    go_ret2
    rw [HF.out]
    exact brd_nil HN.out (by repeat (first | (with_reducible exact Below.refl _ _) | (with_reducible refine below_ov ?_ ?_) | (with_reducible refine Below.setCell ?_ ?_ _) | (with_reducible refine Below.alloc ?_ ?_ _) | (with_reducible refine Below.drew ?_) | (with_reducible refine below_drewN ?_ _) | (refine Below.trans ?_ (Below.mono ‹Below _ _ _› (by first | omega | (simp; done) | (simp; omega)))) | exact Below.refl _ _ | omega | (focus (simp; done)) | (focus (simp; omega))))
  | true =>
    have HB := hide hB
    cases hF : fdB T n s with
    | false =>
      have HF : Hid (adOk T n s m b = false) := by show _ = _; simp [adOk, hF]
      have HN : Hid (adN T n s m b = 0) := by show _ = _; rw [adN, HF.out]; rfl
      have HA : Hid (fstI (nmP T s) n = -1) := by show _ = _; rw [fd_eq HB.out, hF]; rfl
      go_enter Try.func25, Try.ntmps25
      go_wp2_with fail
      refine (findTeam_any T n s lo hi _ _ (hv.below (B := w.heap.size) (by repeat (first | (with_reducible exact Below.refl _ _) | (with_reducible refine below_ov ?_ ?_) | (with_reducible refine Below.setCell ?_ ?_ _) | (with_reducible refine Below.alloc ?_ ?_ _) | (with_reducible refine Below.drew ?_) | (with_reducible refine below_drewN ?_ _) | (refine Below.trans ?_ (Below.mono ‹Below _ _ _› (by first | omega | (simp; done) | (simp; omega)))) | exact Below.refl _ _ | omega | (focus (simp; done)) | (focus (simp; omega)))) hhi) hhi hn).mono ?_
      rintro e w1 ⟨rfl, hb1⟩
      have hz1 := hb1.size
      rw [HA.out]
      go_wp2_with fail
      refine (isBoard_any T n lo hi _ _ (hv.below (B := w.heap.size) (by repeat (first | (with_reducible exact Below.refl _ _) | (with_reducible refine below_ov ?_ ?_) | (with_reducible refine Below.setCell ?_ ?_ _) | (with_reducible refine Below.alloc ?_ ?_ _) | (with_reducible refine Below.drew ?_) | (with_reducible refine below_drewN ?_ _) | (refine Below.trans ?_ (Below.mono ‹Below _ _ _› (by first | omega | (simp; done) | (simp; omega)))) | exact Below.refl _ _ | omega | (focus (simp; done)) | (focus (simp; omega)))) hhi) (by first | omega | (simp; done) | (simp; omega)) hf).mono ?_
      rintro e w2 ⟨rfl, hb2⟩
      have hz2 := hb2.size
      rw [hB]
      go_wp2_with fail
      go_ret2
      rw [HF.out]
      exact brd_nil HN.out (by repeat (first | (with_reducible exact Below.refl _ _) | (with_reducible refine below_ov ?_ ?_) | (with_reducible refine Below.setCell ?_ ?_ _) | (with_reducible refine Below.alloc ?_ ?_ _) | (with_reducible refine Below.drew ?_) | (with_reducible refine below_drewN ?_ _) | (refine Below.trans ?_ (Below.mono ‹Below _ _ _› (by first | omega | (simp; done) | (simp; omega)))) | exact Below.refl _ _ | omega | (focus (simp; done)) | (focus (simp; omega))))
    | true =>
      have hkn := fdB_lt hF
      obtain ⟨k, hk⟩ : ∃ k, k = fdK T n s := ⟨_, rfl⟩
      rw [← hk] at hkn
      have HA : Hid (fstI (nmP T s) n = (k : Int)) := by show _ = _; rw [fd_eq HB.out, hF, ← hk]; rfl
      have HT : Hid (adT T n s m b = adW T k m b) := by show _ = _; rw [adT, ← hk]
      have HE : Hid (adOk T n s m b = adC (T k) m b) := by show _ = _; rw [adOk, HB.out, hF, ← hk]; rfl
      have hn6 := (bd_facts HB.out).1
      have hkp := bd_pos HB.out k hkn
      have hk20 := (tm_facts ((bd_facts HB.out).2 k hkn).1).2.2.2.1
      obtain ⟨ii, hii, iz0, iz1, iz2⟩ := info_parts infoChk
      clear hk hF
      go_enter Try.func25, Try.ntmps25
      go_wp2_with fail
      refine (findTeam_any T _ s lo hi _ _ (hv.below (B := w.heap.size) (by repeat (first | (with_reducible exact Below.refl _ _) | (with_reducible refine below_ov ?_ ?_) | (with_reducible refine Below.setCell ?_ ?_ _) | (with_reducible refine Below.alloc ?_ ?_ _) | (with_reducible refine Below.drew ?_) | (with_reducible refine below_drewN ?_ _) | (refine Below.trans ?_ (Below.mono ‹Below _ _ _› (by first | omega | (simp; done) | (simp; omega)))) | exact Below.refl _ _ | omega | (focus (simp; done)) | (focus (simp; omega)))) hhi) hhi hn).mono ?_
      rintro e w1 ⟨rfl, hb1⟩
      have hz1 := hb1.size
      rw [HA.out]
      go_wp2_with fail
      refine (isBoard_any T _ lo hi _ _ (hv.below (B := w.heap.size) (by repeat (first | (with_reducible exact Below.refl _ _) | (with_reducible refine below_ov ?_ ?_) | (with_reducible refine Below.setCell ?_ ?_ _) | (with_reducible refine Below.alloc ?_ ?_ _) | (with_reducible refine Below.drew ?_) | (with_reducible refine below_drewN ?_ _) | (refine Below.trans ?_ (Below.mono ‹Below _ _ _› (by first | omega | (simp; done) | (simp; omega)))) | exact Below.refl _ _ | omega | (focus (simp; done)) | (focus (simp; omega)))) hhi) (by first | omega | (simp; done) | (simp; omega)) hf).mono ?_
      rintro e w2 ⟨rfl, hb2⟩
      have hz2 := hb2.size
      rw [hB]
      go_wp2_with fail
      refine (copyBoard_any T _ lo hi _ _ (hv.below (B := w.heap.size) (by repeat (first | (with_reducible exact Below.refl _ _) | (with_reducible refine below_ov ?_ ?_) | (with_reducible refine Below.setCell ?_ ?_ _) | (with_reducible refine Below.alloc ?_ ?_ _) | (with_reducible refine Below.drew ?_) | (with_reducible refine below_drewN ?_ _) | (refine Below.trans ?_ (Below.mono ‹Below _ _ _› (by first | omega | (simp; done) | (simp; omega)))) | exact Below.refl _ _ | omega | (focus (simp; done)) | (focus (simp; omega)))) hhi) (by first | omega | (simp; done) | (simp; omega)) hf (bd_pos HB.out)).mono ?_
      rintro e w3 ⟨v3, rfl, ⟨γ, β, ck, hx, hin⟩, hb3⟩
      have hz3 := hb3.size
      obtain ⟨A3, c3, rfl, hc3, hA3⟩ := hx.own.open_
      obtain ⟨g, rfl, g1, g2⟩ := hA3 (by omega)
      obtain rfl : γ = g := by omega
      have hg := hin.1 (by omega)
      obtain ⟨_, _, c0⟩ := hx.own.cell (by omega) (o := k * 4 + 3) (by omega)
      replace c0 := c0 (by omega)
      rw [show (k * 4 + 3) / 4 = k by omega, show (k * 4 + 3) % 4 = 3 by omega] at c0
      obtain ⟨Ak, cpk, ek, hck, hAk⟩ := (hx.sub k hkn).open_
      obtain ⟨gk, rfl, gk1, gk2⟩ := hAk hkp
      obtain rfl : β k = gk := by omega
      rw [show tC T ck k 3 = ck k from rfl, ek] at c0
      have hrk := (hx.sub k hkn).rowL hkp (by omega)
      rw [ek] at hrk
      have HX := hide hx
      have HIn := hide hin
      have EK := hide ek
      have HRK := hide hrk
      clear hx hin hA3 ek hrk
      go_wp2_with (at_builtin; refine wpList_append_two _ rfl _ _ 25 rfl (β k) 56 ii (.agg #[.int .i64 0, .int .i64 0]) 2 16 Try.underlying25 hii iz0 iz1 iz2 rfl (by decide) _ _ _ rfl (HRK.out.alloc _) ⟨w3.heap.size, 0, none⟩ 1 1 [.int .i64 m, .int .i64 b] rfl rfl ?_ (fun u hu => int2_one hu) (by omega) ?_ ?_ ?_)
      · intro i u hu
        match i, hu with
        | 0, hu => simp at hu; subst hu; simp [go_sem, Addr.add]
        | 1, hu => simp at hu; subst hu; simp [go_sem, Addr.add]
      · unfold maxLen; omega
      · omega
      intro v4 w4 hcase
      rw [chk_snoc] at hcase
      have hfin : Hid (∃ b', b' ≠ γ ∧ b' < w4.heap.size ∧ (∀ i, i < n → i ≠ k → β i ≠ b') ∧ w2.heap.size ≤ b' ∧ OwnL w4 b' (b' + 1) 56 2 v4 ((T k).n + 1) (((T k).n + 1) * 2) (fun o => iiC (adTm (T k) m b).m (adTm (T k) m b).b (o / 2) (o % 2)) ∧ (∀ x, x < w3.heap.size → x ≠ β k → w4.heap[x]? = w3.heap[x]?) ∧ w3.heap.size < w4.heap.size ∧ Below w2.heap.size w3 w4) := by
        show ∃ _, _
        rcases hcase with ⟨r0, r1, r2⟩ | ⟨r1, r2⟩
        · have hb := HIn.out.2 k hkn
          have hz := r2.size
          simp at hz
          refine ⟨β k, HX.out.ne k hkn, by omega, fun i hi hik => HX.out.inj i k hi hkn hik, by omega, row_at r1 (by omega) r0, fun x hx hxk => ?_, by omega, ?_⟩
          · rw [r2.block x (by simp; omega) (fun e => hxk (by injection e))]
            exact Deep.blk_alloc_lt _ _ _ hx
          · exact ((Below.refl _ _).alloc (by omega) _).grown r2 (by simp; omega) (fun g hg => by injection hg with hg; have hg : β k = g := hg; omega)
        · have hz := r2.size
          simp at hz
          rcases r1.2 with ⟨_, h0⟩ | ⟨b', cap', cur, rfl, hb1, _⟩
          · omega
          · have hlt := r1.lt b' rfl
            refine ⟨b', by omega, hlt.2, fun i hi _ => by have := HIn.out.2 i hi; omega, by omega, row_at r1 (by omega) rfl, fun x hx hxk => ?_, by omega, ?_⟩
            · rw [r2.block x (by simp; omega) (fun e => by cases e)]
              exact Deep.blk_alloc_lt _ _ _ hx
            · exact ((Below.refl _ _).alloc (by omega) _).grown r2 (by simp; omega) (fun g hg => by cases hg)
      clear hcase
      obtain ⟨b', q1, q2, q3, q4, q5, q6, q7, q8⟩ := hfin.out
      obtain ⟨A4, c4, rfl, _, _⟩ := q5.open_
      have ho4 := HX.out.own.keep1 (q6 γ hg.2 (HX.out.ne k hkn).symm)
      obtain ⟨⟨u3, hu3⟩, hf3, _⟩ := ho4.cell (by omega) (o := k * 4 + 3) (by omega)
      have hs4 := hide (ho4.set (o := k * 4 + 3) (by omega) (.slice A4 ((T k).n + 1) c4))
      have hu4 := hide ((q5.keep1 (Deep.blk_setCell_other w4 ⟨γ, k * 4 + 3, none⟩ (.slice A4 ((T k).n + 1) c4) b' q1)))
      have hxd := hide (HX.out.added (W := w4) (m := m) (b := b) hkn hs4.out hu4.out q1 q3 fun i hi hik => by
        have hne := HX.out.ne i hi
        rw [Deep.blk_setCell_other _ _ _ _ hne]
        exact q6 _ (HIn.out.2 i hi).2 (HX.out.inj i k hi hkn hik))
      have Q6 := hide q6
      have Q3 := hide q3
      have hb34 : Below w.heap.size w w4 := by
        have hb03 : Below w.heap.size w w3 := (by repeat (first | (with_reducible exact Below.refl _ _) | (with_reducible refine below_ov ?_ ?_) | (with_reducible refine Below.setCell ?_ ?_ _) | (with_reducible refine Below.alloc ?_ ?_ _) | (with_reducible refine Below.drew ?_) | (with_reducible refine below_drewN ?_ _) | (refine Below.trans ?_ (Below.mono ‹Below _ _ _› (by first | omega | (simp; done) | (simp; omega)))) | exact Below.refl _ _ | omega | (focus (simp; done)) | (focus (simp; omega))))
        exact hb03.trans (q8.mono (by omega))
      clear ho4 q3 q5 q6
      go_wp2_with fail
      refine (areChecks_any (adTm (T k) m b).m (adTm (T k) m b).b ((T k).n + 1) b' (b' + 1) _ _ hu4.out.slf (by simp [World.setCell]; omega) (by omega)).mono ?_
      rintro e w5 ⟨rfl, hb5⟩
      have hz5 := hb5.size
      (try (simp [World.setCell] at hz5))
      rw [show chkB (adTm (T k) m b).m (adTm (T k) m b).b ((T k).n + 1) = adC (T k) m b from rfl]
      cases hC : adC (T k) m b with
      | false =>
        have HN : Hid (adN T n s m b = 0) := by show _ = _; rw [adN, HE.out, hC]; rfl
        go_wp2_with fail
        go_ret2
        rw [HE.out, hC]
        exact brd_nil HN.out (by repeat (first | (with_reducible exact Below.refl _ _) | (with_reducible refine below_ov ?_ ?_) | (with_reducible refine Below.setCell ?_ ?_ _) | (with_reducible refine Below.alloc ?_ ?_ _) | (with_reducible refine Below.drew ?_) | (with_reducible refine below_drewN ?_ _) | (refine Below.trans ?_ (Below.mono ‹Below _ _ _› (by first | omega | (simp; done) | (simp; omega)))) | exact Below.refl _ _ | omega | (focus (simp; done)) | (focus (simp; omega))))
      | true =>
        have HN : Hid (adN T n s m b = n) := by show _ = _; rw [adN, HE.out, hC]; rfl
        go_wp2_with fail
        go_ret2
        rw [HE.out, hC, HN.out, HT.out]
        refine ⟨_, rfl, ?_, (by repeat (first | (with_reducible exact Below.refl _ _) | (with_reducible refine below_ov ?_ ?_) | (with_reducible refine Below.setCell ?_ ?_ _) | (with_reducible refine Below.alloc ?_ ?_ _) | (with_reducible refine Below.drew ?_) | (with_reducible refine below_drewN ?_ _) | (refine Below.trans ?_ (Below.mono ‹Below _ _ _› (by first | omega | (simp; done) | (simp; omega)))) | exact Below.refl _ _ | omega | (focus (simp; done)) | (focus (simp; omega))))⟩
        refine (OwnT.below (lo := w.heap.size) (hi := w4.heap.size) ⟨γ, _, _, hxd.out, fun _ => ⟨Nat.le_trans (by omega) hg.1, by omega⟩, fun i hi => ?_⟩ hb5 (by simp [World.setCell])).mono (Nat.le_refl _) (by omega)
        have := HIn.out.2 i hi
        by_cases hik : i = k
        · simp only [hik, if_true]; omega
        · simp only [hik, if_false]; omega

end Go.Proofs.Ytnfhgnibjebmlaa

/-
  Walks: a team enters: plain words; slices.Insert at whatever place.-/
namespace Go.Proofs.Ytnfhgnibjebmlaa
set_option linter.unusedVariables false
set_option linter.unusedSimpArgs false
open Go.RowKit

def etOk (T : Nat → Tm) (n : Nat) (X : Tm) : Bool := bdB T n && (tmB X && (!decide (n = 6) && !fdB T n X.s))
def etN (T : Nat → Tm) (n : Nat) (X : Tm) : Nat := if etOk T n X = true then n + 1 else 0
def insT (T : Nat → Tm) (k : Nat) (X : Tm) (i : Nat) : Tm := if i < k then T i else if i = k then X else T (i - 1)
def etT (T : Nat → Tm) (n : Nat) (X : Tm) : Nat → Tm := insT T (fdK T n X.s) X
theorem fdK_le (T : Nat → Tm) (n : Nat) (s : ByteArray) : fdK T n s ≤ n := (lead_spec _ _).1
theorem etN_le {T : Nat → Tm} {n : Nat} {X : Tm} (hf : tfits T n) : etN T n X ≤ 1048576 := by
  unfold etN
  split
  · rename_i h
    simp only [etOk, Bool.and_eq_true] at h
    have := (bd_facts h.1).1
    omega
  · omega
theorem etT_fits {T : Nat → Tm} {n : Nat} {X : Tm} (hf : tfits T n) (hX : X.fits) : tfits (etT T n X) (etN T n X) := by
  refine ⟨etN_le hf, fun i hi => ?_⟩
  unfold etN at hi
  split at hi
  · unfold etT insT
    split
    · rename_i h
      exact hf.2 _ (by have := fdK_le T n X.s; omega)
    · split
      · exact hX
      · exact hf.2 _ (by omega)
  · omega
def xC (X : Tm) (u : Value) (j : Nat) : Value := if j = 0 then .string X.s else if j = 1 then .int .i64 X.v else if j = 2 then .int .i64 X.y else u
theorem ins_tC (T : Nat → Tm) (ck : Nat → Value) (k : Nat) (X : Tm) (u : Value) (i j : Nat) : insC k (tC T ck) (xC X u) i j = tC (insT T k X) (fun i => if i < k then ck i else if i = k then u else ck (i - 1)) i j := by
  unfold insC
  split
  · rename_i h
    simp only [tC, insT, h, if_true]
  · rename_i h
    split
    · rename_i h'
      subst h'
      simp only [tC, insT, Nat.lt_irrefl, xC, if_true, if_false]
    · rename_i h'
      simp only [tC, insT, h, h', if_false]
theorem rowL_snoc (c : Nat → Nat → Value) (x : Nat → Value) (n : Nat) : rowL c 4 n ++ [x 0, x 1, x 2, x 3] = rowL (insC n c x) 4 (n + 1) := by
  rw [rowL]
  congr 1
  · refine rowL_congr fun i j hi _ => ?_
    simp only [insC, hi, if_true]
  · simp [List.range, List.range.loop, insC]
theorem x4_one {x : Nat → Value} (hx1 : ∀ j, j < 4 → (x j).oneCell' = true) {u : Value} (h : u ∈ [x 0, x 1, x 2, x 3]) : u.oneCell' = true := by
  simp at h
  rcases h with rfl | rfl | rfl | rfl
  · exact hx1 0 (by omega)
  · exact hx1 1 (by omega)
  · exact hx1 2 (by omega)
  · exact hx1 3 (by omega)
set_option maxRecDepth 100000 in
set_option maxHeartbeats 3200000 in
theorem InsertTeam_end (c : Nat → Nat → Value) (x : Nat → Value) (n vb base : Nat) (v : Value) (w : World) (h : w.ownsRow base 27 4 v n (rowL c 4 n)) (hn : n ≤ 5)
    (hvb : w.heap[vb]? = some (.cells #[x 0, x 1, x 2, x 3] 27 (0, 0))) (hx1 : ∀ j, j < 4 → (x j).oneCell' = true) :
    Calls Try.prog 37 #[v, .int .i64 n, .slice (some ⟨vb, 0, none⟩) 1 1] w fun e w' => ∃ v', e = .returned v' ∧ ((v'.ownBlock = v.ownBlock ∧ w'.ownsRow base 27 4 v' (n + 1) (rowL (insC n c x) 4 (n + 1)) ∧ w.grownBy w' v.ownBlock) ∨ (w'.ownsRow w.heap.size 27 4 v' (n + 1) (rowL (insC n c x) 4 (n + 1)) ∧ w.grownBy w' none)) := by
  obtain ⟨ii, hii, iz0, iz1, iz2⟩ := info_parts infoTeam
  have hcv : ∀ j u, [x 0, x 1, x 2, x 3][j]? = some u → w.cell? ((⟨vb, 0, none⟩ : Addr).add j) = some u := fun j u hu => by
    rw [Addr.add_lit, Nat.zero_add]
    simp only [World.cell?, hvb]
    match j, hu with
    | 0, hu => simpa using hu
    | 1, hu => simpa using hu
    | 2, hu => simpa using hu
    | 3, hu => simpa using hu
  have HV := hide hcv
  have HH := hide h
  have hform : v = .slice none 0 0 ∧ n = 0 ∨ ∃ g cap, v = .slice (some ⟨g, 0, none⟩) n cap ∧ n ≤ cap := by
    rcases h.2 with h1 | ⟨g, cap, cur, h1, _, _, h2, _⟩
    · exact .inl h1
    · exact .inr ⟨g, cap, h1, h2⟩
  clear hcv h
  rcases hform with ⟨rfl, rfl⟩ | ⟨g, cap, rfl, hcap⟩
  · go_enter Try.func37, Try.ntmps37
    go_wp2_with (at_builtin; refine wpList_append_two _ rfl _ _ 24 rfl base 27 ii (.agg #[.string ⟨#[]⟩, .int .i64 0, .int .i64 0, .slice none 0 0]) 4 56 Try.underlying24 hii iz0 iz1 iz2 rfl (by decide) _ _ _ rfl HH.out ⟨vb, 0, none⟩ 1 1 [x 0, x 1, x 2, x 3] rfl rfl HV.out (fun u hu => x4_one hx1 hu) (by omega) (by unfold maxLen; omega) (by omega) ?_)
    intro v4 w4 hcase
    rw [rowL_snoc] at hcase
    have hf : ∃ A c, v4 = .slice A 1 c := by
      rcases hcase with ⟨_, r, _⟩ | ⟨r, _⟩ <;> exact row_form r
    obtain ⟨A, c4, rfl⟩ := hf
    have HC := hide hcase
    clear hcase
    go_wp2_with fail
    go_ret
    exact ⟨_, rfl, HC.out⟩
  · go_enter Try.func37, Try.ntmps37
    go_wp2_with (at_builtin; refine wpList_append_two _ rfl _ _ 24 rfl base 27 ii (.agg #[.string ⟨#[]⟩, .int .i64 0, .int .i64 0, .slice none 0 0]) 4 56 Try.underlying24 hii iz0 iz1 iz2 rfl (by decide) _ _ _ rfl HH.out ⟨vb, 0, none⟩ 1 1 [x 0, x 1, x 2, x 3] rfl rfl HV.out (fun u hu => x4_one hx1 hu) (by omega) (by unfold maxLen; omega) (by omega) ?_)
    all_goals
      intro v4 w4 hcase
      rw [rowL_snoc] at hcase
      have hf : ∃ A c, v4 = .slice A (n + 1) c := by
        rcases hcase with ⟨_, r, _⟩ | ⟨r, _⟩ <;> exact row_form r
      obtain ⟨A, c4, rfl⟩ := hf
      have HC := hide hcase
      clear hcase
      go_wp2_with fail
      go_ret
      exact ⟨_, rfl, HC.out⟩
/-- At whatever place. -/
theorem InsertTeam_any (c : Nat → Nat → Value) (x : Nat → Value) (k n vb base : Nat) (v : Value) (w : World) (h : w.ownsRow base 27 4 v n (rowL c 4 n)) (hn : n ≤ 5) (hk : k ≤ n) (hbase : base ≤ w.heap.size)
    (hvb : w.heap[vb]? = some (.cells #[x 0, x 1, x 2, x 3] 27 (0, 0))) (hne : ∀ g, v.ownBlock = some g → vb ≠ g) (hc1 : ∀ i j, i < n → j < 4 → (c i j).oneCell' = true) (hx1 : ∀ j, j < 4 → (x j).oneCell' = true) :
    Calls Try.prog 37 #[v, .int .i64 k, .slice (some ⟨vb, 0, none⟩) 1 1] w fun e w' => ∃ v' g', e = .returned v' ∧ OwnL w' g' (g' + 1) 27 4 v' (n + 1) ((n + 1) * 4) (fun o => insC k c x (o / 4) (o % 4)) ∧ base ≤ g' ∧ g' < w'.heap.size ∧ (∀ b, b < w.heap.size → v.ownBlock ≠ some b → w'.heap[b]? = w.heap[b]?) ∧ Below base w w' := by
  by_cases hkn : k = n
  · subst hkn
    refine (InsertTeam_end c x k vb base v w h hn hvb hx1).mono ?_
    rintro e w' ⟨v', rfl, hcase⟩
    have key : ∀ {b0 : Nat}, w'.ownsRow b0 27 4 v' (k + 1) (rowL (insC k c x) 4 (k + 1)) → ∃ g', b0 ≤ g' ∧ g' < w'.heap.size ∧ OwnL w' g' (g' + 1) 27 4 v' (k + 1) ((k + 1) * 4) (fun o => insC k c x (o / 4) (o % 4)) := fun {b0} r => by
      rcases r.2 with ⟨_, h0⟩ | ⟨g, cap, cur, rfl, _⟩
      · omega
      · have hlt := r.lt g rfl
        exact ⟨g, hlt.1, hlt.2, row_at r (by omega) rfl⟩
    rcases hcase with ⟨r0, r1, r2⟩ | ⟨r1, r2⟩
    · obtain ⟨g', q1, q2, q3⟩ := key r1
      refine ⟨v', g', rfl, q3, q1, q2, fun b hb hnb => r2.block b hb (fun e => hnb e.symm), ?_⟩
      exact (Below.refl _ _).grown r2 hbase (fun g hg => (h.lt g hg).1)
    · obtain ⟨g', q1, q2, q3⟩ := key r1
      refine ⟨v', g', rfl, q3, by omega, q2, fun b hb _ => r2.block b hb (fun e => by cases e), ?_⟩
      exact (Below.refl _ _).grown r2 hbase (fun g hg => by cases hg)
  · obtain ⟨d, rfl⟩ : ∃ d, n = k + d + 1 := ⟨n - 1 - k, by omega⟩
    rcases h.2 with ⟨_, h0⟩ | ⟨γ, cap, cur, rfl, _⟩
    · omega
    have hl := row_at h (by omega) (g := γ) rfl
    have hlt := h.lt γ rfl
    by_cases hroom : k + d + 2 ≤ cap
    · refine (InsertTeam_shift c x k d γ vb cap w hl (by omega) hlt.2 hroom hvb (hne γ rfl) hc1 hx1).mono ?_
      rintro e w' ⟨rfl, h1, h2⟩
      have hz := h2.size
      exact ⟨_, γ, rfl, h1, hlt.1, by omega, fun b hb hnb => h2.block b hb (by have : b ≠ γ := fun e => hnb (by rw [e]; rfl); omega), h2.below hlt.1 hbase⟩
    · refine (InsertTeam_grow c x k d γ vb cap w hl (by omega) hlt.2 (by omega) hvb hc1 hx1).mono ?_
      rintro e w' ⟨G, rfl, h1, h2, h3⟩
      exact ⟨_, w.heap.size, rfl, h1, hbase, h3, fun b hb _ => h2.block b hb, h2.mono hbase⟩

end Go.Proofs.Ytnfhgnibjebmlaa

/-
  Walks: the first team that must turn.-/
namespace Go.Proofs.Ytnfhgnibjebmlaa
set_option linter.unusedVariables false
set_option linter.unusedSimpArgs false
open Go.RowKit

/-- The minute that counts for a team. -/
def ftT (T : Tm) : Int := if tmTOk T = true then tmTN T else T.lm
def ftC (k : Int × Bool × Int) (T : Tm) : Bool := decide (k.1 < 0) || (k.2.1 && !tmTOk T) || ((k.2.1 == tmTOk T) && decide (ftT T < k.2.2))
/-- The best of the first k: its place, whether it is known, its minute. -/
def ft (T : Nat → Tm) : Nat → Int × Bool × Int
  | 0 => (-1, true, 0)
  | k + 1 => if ftC (ft T k) (T k) = true then ((k : Int), tmTOk (T k), ftT (T k)) else ft T k
theorem ft_bd (T : Nat → Tm) : ∀ k, (0 < k → 0 ≤ (ft T k).1) ∧ (ft T k).1 < k ∧ (k = 0 → (ft T k).1 = -1)
  | 0 => ⟨fun h => by omega, by simp [ft], fun _ => rfl⟩
  | k + 1 => by
    obtain ⟨h1, h2, h3⟩ := ft_bd T k
    cases hc : ftC (ft T k) (T k) with
    | true => simp only [ft, hc, if_true]; refine ⟨fun _ => by omega, by omega, fun h => by omega⟩
    | false =>
      have : 0 < k := by
        rcases Nat.eq_zero_or_pos k with h0 | h0
        · simp [ftC, h3 h0] at hc
        · exact h0
      simp only [ft, hc, Bool.false_eq_true, if_false]
      exact ⟨fun _ => h1 this, by omega, fun h => by omega⟩
def frB (T : Nat → Tm) (n : Nat) : Bool := bdB T n && decide (0 < n)
def frS (T : Nat → Tm) (n : Nat) : ByteArray := if frB T n = true then (T (ft T n).1.toNat).s else ⟨#[]⟩
def frN (T : Nat → Tm) (n : Nat) : Int := if frB T n = true then (ft T n).2.2 else 0
theorem ret_sib {s s' : ByteArray} {a a' : Int} {b b' : Bool} (h1 : s = s') (h2 : a = a') (h3 : b = b') : Ending.returned (.tuple #[.string s, .int .i64 a, .bool b]) = Ending.returned (.tuple #[.string s', .int .i64 a', .bool b']) := by subst h1 h2 h3; rfl
set_option maxRecDepth 100000 in
set_option maxHeartbeats 1600000 in
theorem FirstTurn_impl (T : Nat → Tm) (n lo hi : Nat) (v : Value) (w : World) (hv : SlT w lo hi v n T) (hhi : hi ≤ w.heap.size) (hf : tfits T n) :
    Calls Try.prog 21 #[v] w fun e w' => e = .returned (.tuple #[.string (frS T n), .int .i64 (frN T n), .bool (frB T n)]) ∧ Below w.heap.size w w' := by
  obtain ⟨A, cap, rfl, hcap⟩ := hv.open_
  cases hB : bdB T n with
  | false =>
    have HF : Hid (frB T n = false) := by show _ = _; simp [frB, hB]
    have HN : Hid (frN T n = 0) := by show _ = _; rw [frN, HF.out]; rfl
    have HS : Hid (frS T n = ⟨#[]⟩) := by show _ = _; rw [frS, HF.out]; rfl
    go_enter Try.func21, Try.ntmps21
    go_wp2_with (go_at_call 32; refine (isBoard_any T n lo hi _ _ hv hhi hf).mono ?_; rintro e w1 ⟨rfl, hb1⟩; have hz1 := hb1.size; (try (simp at hz1)); obtain ⟨hcw1, hfw1⟩ := bcell hb1; (try (have hy1 : w.heap.size < w1.heap.size := by omega)); (try (have hyy1 : w.heap.size + 1 < w1.heap.size := by omega)); (try (have hyyy1 : w.heap.size + 1 + 1 < w1.heap.size := by omega)))
    go_ret3
    exact ⟨ret_sib HS.out.symm HN.out.symm HF.out.symm, (by repeat (first | (with_reducible exact Below.refl _ _) | (with_reducible refine below_ov ?_ ?_) | (with_reducible refine Below.setCell ?_ ?_ _) | (with_reducible refine Below.alloc ?_ ?_ _) | (with_reducible refine Below.drew ?_) | (with_reducible refine below_drewN ?_ _) | (refine Below.trans ?_ (Below.mono ‹Below _ _ _› (by first | omega | (simp; done) | (simp; omega)))) | exact Below.refl _ _ | omega | (focus (simp; done)) | (focus (simp; omega))))⟩
  | true =>
    have hq := (bd_facts hB).1
    rcases Nat.eq_zero_or_pos n with h0 | h0
    · have HF : Hid (frB T n = false) := by show _ = _; simp [frB, hB]; omega
      have HN : Hid (frN T n = 0) := by show _ = _; rw [frN, HF.out]; rfl
      have HS : Hid (frS T n = ⟨#[]⟩) := by show _ = _; rw [frS, HF.out]; rfl
      have d0 : ((n : Int) == 0) = true := by simp; omega
      clear h0
      go_enter Try.func21, Try.ntmps21
      go_wp2_with fail
      refine (isBoard_any T n lo hi _ _ (hv.below (B := w.heap.size) (by repeat (first | (with_reducible exact Below.refl _ _) | (with_reducible refine below_ov ?_ ?_) | (with_reducible refine Below.setCell ?_ ?_ _) | (with_reducible refine Below.alloc ?_ ?_ _) | (with_reducible refine Below.drew ?_) | (with_reducible refine below_drewN ?_ _) | (refine Below.trans ?_ (Below.mono ‹Below _ _ _› (by first | omega | (simp; done) | (simp; omega)))) | exact Below.refl _ _ | omega | (focus (simp; done)) | (focus (simp; omega)))) hhi) hhi hf).mono ?_
      rintro e w1 ⟨rfl, hb1⟩
      have hz1 := hb1.size
      rw [hB]
      go_wp2_with fail
      go_ret3
      exact ⟨ret_sib HS.out.symm HN.out.symm HF.out.symm, (by repeat (first | (with_reducible exact Below.refl _ _) | (with_reducible refine below_ov ?_ ?_) | (with_reducible refine Below.setCell ?_ ?_ _) | (with_reducible refine Below.alloc ?_ ?_ _) | (with_reducible refine Below.drew ?_) | (with_reducible refine below_drewN ?_ _) | (refine Below.trans ?_ (Below.mono ‹Below _ _ _› (by first | omega | (simp; done) | (simp; omega)))) | exact Below.refl _ _ | omega | (focus (simp; done)) | (focus (simp; omega))))⟩
    · have HB := hide hB
      have d1 : ((n : Int) == 0) = false := by simp; omega
      have hfl : ∀ x y w, (Instr.field 56 (.agg #[x, y]) 0).run Try.prog w = .ok x w := fun _ _ _ => by kernel_rfl
      go_enter Try.func21, Try.ntmps21
      go_wp2_with fail
      refine (isBoard_any T n lo hi _ _ (hv.below (B := w.heap.size) (by repeat (first | (with_reducible exact Below.refl _ _) | (with_reducible refine below_ov ?_ ?_) | (with_reducible refine Below.setCell ?_ ?_ _) | (with_reducible refine Below.alloc ?_ ?_ _) | (with_reducible refine Below.drew ?_) | (with_reducible refine below_drewN ?_ _) | (refine Below.trans ?_ (Below.mono ‹Below _ _ _› (by first | omega | (simp; done) | (simp; omega)))) | exact Below.refl _ _ | omega | (focus (simp; done)) | (focus (simp; omega)))) hhi) hhi hf).mono ?_
      rintro e w1 ⟨rfl, hb1⟩
      have hz1 := hb1.size
      rw [hB]
      go_wp2_with fail
      go_loopw [5, 6, 7, 21] (fun a b c i wr => ∃ k : Nat, k ≤ n ∧ i = .int .i64 k ∧ a = .int .i64 (ft T k).1 ∧ b = .bool (ft T k).2.1 ∧ c = .int .i64 (ft T k).2.2 ∧ Below w.heap.size w wr) (fun _ _ _ i _ => n - (intOf i).toNat)
      case atStart => exact ⟨0, by omega, rfl, rfl, rfl, rfl, (by repeat (first | (with_reducible exact Below.refl _ _) | (with_reducible refine below_ov ?_ ?_) | (with_reducible refine Below.setCell ?_ ?_ _) | (with_reducible refine Below.alloc ?_ ?_ _) | (with_reducible refine Below.drew ?_) | (with_reducible refine below_drewN ?_ _) | (refine Below.trans ?_ (Below.mono ‹Below _ _ _› (by first | omega | (simp; done) | (simp; omega)))) | exact Below.refl _ _ | omega | (focus (simp; done)) | (focus (simp; omega))))⟩
      case round =>
        obtain ⟨k, hk, rfl, rfl, rfl, rfl, hb⟩ := hrel
        have hzr := hb.size
        by_cases hkn : k < n
        · obtain ⟨blk, off, ck, rfl, h1, h2, h3⟩ := (hv.below hb hhi).at_ (by omega) (by omega)
          have t0 := hide (h3 k hkn)
          have HK := hide ((bd_facts hB).2 k hkn).1
          have l0 : blk < wr.heap.size := by omega
          clear h3
          have HT : Hid (ft T (k + 1) = if ftC (ft T k) (T k) = true then ((k : Int), tmTOk (T k), ftT (T k)) else ft T k) := rfl
          cases e1 : tmTOk (T k) with
          | true =>
            go_wp2_with fail
            refine (turn_any (T k) blk (off + k * 4) lo hi _ _ (t0.out.below (B := wr.heap.size) (by repeat (first | (with_reducible exact Below.refl _ _) | (with_reducible refine below_ov ?_ ?_) | (with_reducible refine Below.setCell ?_ ?_ _) | (with_reducible refine Below.alloc ?_ ?_ _) | (with_reducible refine Below.drew ?_) | (with_reducible refine below_drewN ?_ _) | (refine Below.trans ?_ (Below.mono ‹Below _ _ _› (by first | omega | (simp; done) | (simp; omega)))) | exact Below.refl _ _ | omega | (focus (simp; done)) | (focus (simp; omega)))) (Nat.le_refl _)) HK.out).mono ?_
            rintro e w2 ⟨rfl, hb2⟩
            have hz2 := hb2.size
            rw [e1]
            have hF : ftT (T k) = tmTN (T k) := by simp [ftT, e1]
            rcases Int.lt_or_le (ft T k).1 0 with e2 | e2
            · have e3 : decide ((ft T k).1 < 0) = true := decide_eq_true e2
              go_wp2_with fail
              all_goals go_roundw
              all_goals first
                | (exact ⟨k + 1, by omega, by go_num, by ((simp [HT.out, ftC, *]) <;> rw [if_neg (by omega)] <;> simp [*]), by ((simp [HT.out, ftC, *]) <;> rw [if_neg (by omega)] <;> simp [*]), by ((simp [HT.out, ftC, *]) <;> rw [if_neg (by omega)] <;> simp [*]), (by repeat (first | (with_reducible exact Below.refl _ _) | (with_reducible refine below_ov ?_ ?_) | (with_reducible refine Below.setCell ?_ ?_ _) | (with_reducible refine Below.alloc ?_ ?_ _) | (with_reducible refine Below.drew ?_) | (with_reducible refine below_drewN ?_ _) | (refine Below.trans ?_ (Below.mono ‹Below _ _ _› (by first | omega | (simp; done) | (simp; omega)))) | exact Below.refl _ _ | omega | (focus (simp; done)) | (focus (simp; omega))))⟩)
                | (simp [intOf]; omega)
            · have e3 : decide ((ft T k).1 < 0) = false := decide_eq_false (by omega)
              have e4 : ¬ (ft T k).1 < 0 := by omega
              go_wp2_with fail
              all_goals go_roundw
              all_goals first
                | (exact ⟨k + 1, by omega, by go_num, by ((simp [HT.out, ftC, *]) <;> rw [if_neg (by omega)] <;> simp [*]), by ((simp [HT.out, ftC, *]) <;> rw [if_neg (by omega)] <;> simp [*]), by ((simp [HT.out, ftC, *]) <;> rw [if_neg (by omega)] <;> simp [*]), (by repeat (first | (with_reducible exact Below.refl _ _) | (with_reducible refine below_ov ?_ ?_) | (with_reducible refine Below.setCell ?_ ?_ _) | (with_reducible refine Below.alloc ?_ ?_ _) | (with_reducible refine Below.drew ?_) | (with_reducible refine below_drewN ?_ _) | (refine Below.trans ?_ (Below.mono ‹Below _ _ _› (by first | omega | (simp; done) | (simp; omega)))) | exact Below.refl _ _ | omega | (focus (simp; done)) | (focus (simp; omega))))⟩)
                | (simp [intOf]; omega)
          | false =>
            go_wp2_with fail
            refine (turn_any (T k) blk (off + k * 4) lo hi _ _ (t0.out.below (B := wr.heap.size) (by repeat (first | (with_reducible exact Below.refl _ _) | (with_reducible refine below_ov ?_ ?_) | (with_reducible refine Below.setCell ?_ ?_ _) | (with_reducible refine Below.alloc ?_ ?_ _) | (with_reducible refine Below.drew ?_) | (with_reducible refine below_drewN ?_ _) | (refine Below.trans ?_ (Below.mono ‹Below _ _ _› (by first | omega | (simp; done) | (simp; omega)))) | exact Below.refl _ _ | omega | (focus (simp; done)) | (focus (simp; omega)))) (Nat.le_refl _)) HK.out).mono ?_
            rintro e w2 ⟨rfl, hb2⟩
            have hz2 := hb2.size
            rw [e1]
            go_wp2_with fail
            refine (last_any (T k) blk (off + k * 4) lo hi _ _ (t0.out.below (B := wr.heap.size) (by repeat (first | (with_reducible exact Below.refl _ _) | (with_reducible refine below_ov ?_ ?_) | (with_reducible refine Below.setCell ?_ ?_ _) | (with_reducible refine Below.alloc ?_ ?_ _) | (with_reducible refine Below.drew ?_) | (with_reducible refine below_drewN ?_ _) | (refine Below.trans ?_ (Below.mono ‹Below _ _ _› (by first | omega | (simp; done) | (simp; omega)))) | exact Below.refl _ _ | omega | (focus (simp; done)) | (focus (simp; omega)))) (by first | omega | (simp; done) | (simp; omega))) HK.out).mono ?_
            rintro e w3 ⟨rfl, hb3⟩
            have hz3 := hb3.size
            have hF : ftT (T k) = (T k).lm := by simp [ftT, e1]
            rcases Int.lt_or_le (ft T k).1 0 with e2 | e2
            · have e3 : decide ((ft T k).1 < 0) = true := decide_eq_true e2
              go_wp2_with fail
              all_goals go_roundw
              all_goals first
                | (exact ⟨k + 1, by omega, by go_num, by ((simp [HT.out, ftC, *]) <;> rw [if_neg (by omega)] <;> simp [*]), by ((simp [HT.out, ftC, *]) <;> rw [if_neg (by omega)] <;> simp [*]), by ((simp [HT.out, ftC, *]) <;> rw [if_neg (by omega)] <;> simp [*]), (by repeat (first | (with_reducible exact Below.refl _ _) | (with_reducible refine below_ov ?_ ?_) | (with_reducible refine Below.setCell ?_ ?_ _) | (with_reducible refine Below.alloc ?_ ?_ _) | (with_reducible refine Below.drew ?_) | (with_reducible refine below_drewN ?_ _) | (refine Below.trans ?_ (Below.mono ‹Below _ _ _› (by first | omega | (simp; done) | (simp; omega)))) | exact Below.refl _ _ | omega | (focus (simp; done)) | (focus (simp; omega))))⟩)
                | (simp [intOf]; omega)
            · have e3 : decide ((ft T k).1 < 0) = false := decide_eq_false (by omega)
              have e4 : ¬ (ft T k).1 < 0 := by omega
              go_wp2_with fail
              all_goals go_roundw
              all_goals first
                | (exact ⟨k + 1, by omega, by go_num, by ((simp [HT.out, ftC, *]) <;> rw [if_neg (by omega)] <;> simp [*]), by ((simp [HT.out, ftC, *]) <;> rw [if_neg (by omega)] <;> simp [*]), by ((simp [HT.out, ftC, *]) <;> rw [if_neg (by omega)] <;> simp [*]), (by repeat (first | (with_reducible exact Below.refl _ _) | (with_reducible refine below_ov ?_ ?_) | (with_reducible refine Below.setCell ?_ ?_ _) | (with_reducible refine Below.alloc ?_ ?_ _) | (with_reducible refine Below.drew ?_) | (with_reducible refine below_drewN ?_ _) | (refine Below.trans ?_ (Below.mono ‹Below _ _ _› (by first | omega | (simp; done) | (simp; omega)))) | exact Below.refl _ _ | omega | (focus (simp; done)) | (focus (simp; omega))))⟩)
                | (simp [intOf]; omega)
        · obtain rfl : k = n := by omega
          obtain ⟨g1, g2, _⟩ := ft_bd T k
          have HE : Hid (frB T k = true) := by show _ = _; simp [frB, HB.out]; omega
          have HN : Hid (frN T k = (ft T k).2.2) := by show _ = _; rw [frN, if_pos HE.out]
          have HS : Hid (frS T k = (T (ft T k).1.toNat).s) := by show _ = _; rw [frS, if_pos HE.out]
          have g3 := g1 h0
          obtain ⟨blk, off, ck, rfl, h1, h2, h3⟩ := (hv.below hb hhi).at_ (by omega) (by omega)
          have q0 := (h3 (ft T k).1.toNat (by omega)).c0
          have q9 : (((ft T k).1.toNat : Nat) : Int) = (ft T k).1 := by omega
          have q8 : (ft T k).1.toNat < k := by omega
          have l0 : blk < wr.heap.size := by omega
          clear h3
          go_wp2_with fail
          go_ret3
          exact ⟨ret_sib HS.out.symm HN.out.symm HE.out.symm, (by repeat (first | (with_reducible exact Below.refl _ _) | (with_reducible refine below_ov ?_ ?_) | (with_reducible refine Below.setCell ?_ ?_ _) | (with_reducible refine Below.alloc ?_ ?_ _) | (with_reducible refine Below.drew ?_) | (with_reducible refine below_drewN ?_ _) | (refine Below.trans ?_ (Below.mono ‹Below _ _ _› (by first | omega | (simp; done) | (simp; omega)))) | exact Below.refl _ _ | omega | (focus (simp; done)) | (focus (simp; omega))))⟩

end Go.Proofs.Ytnfhgnibjebmlaa

/-
  Words for a box of four cells.-/
namespace Go.Proofs.Ytnfhgnibjebmlaa
set_option linter.unusedVariables false
set_option linter.unusedSimpArgs false
open Go.RowKit

/-- Four cells of a box. -/
def Box4 (w : World) (b : Nat) (x y z u : Value) : Prop := w.cell? ⟨b, 0, none⟩ = some x ∧ w.cell? ⟨b, 1, none⟩ = some y ∧ w.cell? ⟨b, 2, none⟩ = some z ∧ w.cell? ⟨b, 3, none⟩ = some u
theorem Box4.below {w w' : World} {b B : Nat} {x y z u : Value} (h : Box4 w b x y z u) (hb : Below B w w') (hB : b < B) : Box4 w' b x y z u :=
  ⟨(hb.cell (p := ⟨b, 0, none⟩) hB).trans h.1, (hb.cell (p := ⟨b, 1, none⟩) hB).trans h.2.1, (hb.cell (p := ⟨b, 2, none⟩) hB).trans h.2.2.1, (hb.cell (p := ⟨b, 3, none⟩) hB).trans h.2.2.2⟩
theorem Box4.new (w : World) (x y z u : Value) (t : TypeId) : Box4 (w.alloc (.cells #[x, y, z, u] t)) w.heap.size x y z u :=
  ⟨World.cell?_alloc_new _ _ _ _, World.cell?_alloc_new _ _ _ _, World.cell?_alloc_new _ _ _ _, World.cell?_alloc_new _ _ _ _⟩

end Go.Proofs.Ytnfhgnibjebmlaa
