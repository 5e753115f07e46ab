/-
  Walks: the team's turn: several cylinders, a rate each.
-/
import Derived.Test.YteoolhoncgaapaaWCyl4
import Derived.Test.YteoolhoncgaapaaCells
namespace Go.Proofs.Yteoolhoncgaapaa
set_option linter.unusedVariables false
set_option linter.unusedSimpArgs false
open Go.RowKit

/-- The first one with the least, among the first k: its place (-1: none yet) and this. -/
def tbF (l : Nat → Int) : Nat → Int × Int
  | 0 => (-1, 0)
  | k + 1 => if (tbF l k).1 < 0 ∨ l k < (tbF l k).2 then ((k : Int), l k) else tbF l k
def tbI (l : Nat → Int) (k : Nat) : Int := (tbF l k).1
def tbL (l : Nat → Int) (k : Nat) : Int := (tbF l k).2
theorem tb_zero (l : Nat → Int) : tbI l 0 = -1 ∧ tbL l 0 = 0 := ⟨rfl, rfl⟩
theorem tb_yes {l : Nat → Int} {k : Nat} (h : tbI l k < 0 ∨ l k < tbL l k) : tbI l (k + 1) = k ∧ tbL l (k + 1) = l k := by
  unfold tbI tbL at *
  simp only [tbF]
  rw [if_pos h]
  exact ⟨rfl, rfl⟩
theorem tb_no {l : Nat → Int} {k : Nat} (h : ¬ tbI l k < 0) (h' : ¬ l k < tbL l k) : tbI l (k + 1) = tbI l k ∧ tbL l (k + 1) = tbL l k := by
  unfold tbI tbL at *
  simp only [tbF]
  rw [if_neg (by omega)]
  exact ⟨rfl, rfl⟩
theorem tbI_bd (l : Nat → Int) : ∀ k, -1 ≤ tbI l k ∧ tbI l k < k ∧ (0 < k → 0 ≤ tbI l k)
  | 0 => by simp [tbI, tbF]
  | k + 1 => by
    have h := tbI_bd l k
    by_cases h1 : tbI l k < 0 ∨ l k < tbL l k
    · rw [(tb_yes h1).1]; omega
    · have h2 := tb_no (l := l) (k := k) (by omega) (by omega)
      rw [h2.1]; omega

def tmOk (v b r : Nat → Int) (way res : Int) (i : Nat) : Bool := lateOk (v i) (b i) (r i) way res
def tmN (v b r : Nat → Int) (way res : Int) (i : Nat) : Int := lateN (v i) (b i) (r i) way res
def teamB (v b r : Nat → Int) (way res : Int) (n n' : Nat) : Bool := inB n 2 4 && decide (n = n') && allB (tmOk v b r way res) n
def teamI (v b r : Nat → Int) (way res : Int) (n n' : Nat) : Int := if teamB v b r way res n n' = true then tbI (tmN v b r way res) n else 0
def teamL (v b r : Nat → Int) (way res : Int) (n n' : Nat) : Int := if teamB v b r way res n n' = true then tbL (tmN v b r way res) n else 0
theorem ret_iib {a b c d : Int} {e f : Bool} (h : a = c) (h' : b = d) (h'' : e = f) : Ending.returned (.tuple #[.int .i64 a, .int .i64 b, .bool e]) = .returned (.tuple #[.int .i64 c, .int .i64 d, .bool f]) := by rw [h, h', h'']
theorem team_no {v b r : Nat → Int} {way res : Int} {n n' : Nat} (h : teamB v b r way res n n' = false) : teamI v b r way res n n' = 0 ∧ teamL v b r way res n n' = 0 := by
  simp [teamI, teamL, h]
theorem team_yes {v b r : Nat → Int} {way res : Int} {n n' : Nat} (h : teamB v b r way res n n' = true) : teamI v b r way res n n' = tbI (tmN v b r way res) n ∧ teamL v b r way res n n' = tbL (tmN v b r way res) n := by
  simp [teamI, teamL, h]

set_option maxRecDepth 100000 in
set_option maxHeartbeats 3200000 in
theorem TeamTurn_spec (v b r : Nat → Int) (way res : Int) (n n' lo hi lo' hi' : Nat) (x y : Value) (w : World) (hx : Sl w lo hi 2 x n (iiC v b)) (hy : Sl w lo' hi' 1 y n' (iC r)) (hhi : hi ≤ w.heap.size) (hhi' : hi' ≤ w.heap.size) :
    Calls Try.prog 29 #[x, y, .int .i64 way, .int .i64 res] w fun e w' => e = .returned (.tuple #[.int .i64 (teamI v b r way res n n'), .int .i64 (teamL v b r way res n n'), .bool (teamB v b r way res n n')]) ∧ Below w.heap.size w w' := by
  obtain ⟨A, cap, rfl, hcap, hA⟩ := hx.open_
  obtain ⟨A', cap', rfl, hcap', hA'⟩ := hy.open_
  clear hx hy
  cases hin : inB n 2 4 with
  | false =>
    have HF := hide (team_no (v := v) (b := b) (r := r) (way := way) (res := res) (n := n) (n' := n') (by simp [teamB, hin]))
    have HG : Hid (teamB v b r way res n n' = false) := by show teamB v b r way res n n' = false; simp [teamB, hin]
    go_enter Try.func29, Try.ntmps29
    go_wp2_with (go_at_call 39; refine (l1In_any _ _ _ _).mono ?_; rintro e w' ⟨rfl, rfl⟩)
    go_ret3
    exact ⟨ret_iib HF.out.1.symm HF.out.2.symm HG.out.symm, Below.refl _ _⟩
  | true =>
    by_cases hnn : n = n'
    · subst hnn
      have hn4 := inB_iff.1 hin
      have hne : ((n : Int) != (n : Int)) = false := by simp
      go_enter Try.func29, Try.ntmps29
      go_wp2_with (go_at_call 39; refine (l1In_any _ _ _ _).mono ?_; rintro e w' ⟨rfl, rfl⟩)
      go_loopw [11, 12, 30] (fun who lst i wr => ∃ k : Nat, k ≤ n ∧ i = .int .i64 k ∧ who = .int .i64 (tbI (tmN v b r way res) k) ∧ lst = .int .i64 (tbL (tmN v b r way res) k) ∧ Hid (∀ j, j < k → tmOk v b r way res j = true) ∧ Below w.heap.size w wr) (fun _ _ i _ => n - (intOf i).toNat)
      case atStart => exact ⟨0, by omega, rfl, rfl, rfl, fun j hj => by omega, Below.refl _ _⟩
      case round =>
        obtain ⟨k, hk, rfl, rfl, rfl, hj, hb⟩ := hrel
        have hzr := hb.size
        by_cases hkn : k < n
        · obtain ⟨blk, off, rfl, h1, h2, h3⟩ := (hA.below hb (by omega)) (by omega)
          obtain ⟨blk', off', rfl, h1', h2', h3'⟩ := (hA'.below hb (by omega)) (by omega)
          have c0 : wr.cell? ⟨blk, off + k * 2, none⟩ = some (.int .i64 (v k)) := h3 k 0 hkn (by omega)
          have c1 : wr.cell? ⟨blk, off + k * 2 + 1, none⟩ = some (.int .i64 (b k)) := h3 k 1 hkn (by omega)
          have e0 : wr.cell? ⟨blk', off' + k, none⟩ = some (.int .i64 (r k)) := by have hh := h3' k 0 hkn (by omega); rw [Nat.mul_one, Nat.add_zero] at hh; exact hh
          have g1 : blk' < wr.heap.size := by omega
          have g2 : blk' ≤ wr.heap.size := by omega
          clear h3 hA h3' hA'
          cases hok : lateOk (v k) (b k) (r k) way res with
          | false =>
            have HF0 : Hid (teamB v b r way res n n = false) := by
              show teamB v b r way res n n = false
              rw [teamB, allB_false hkn (show tmOk v b r way res k = false from hok)]; simp
            have HF := hide (team_no HF0.out)
            go_wp2_with fail
            (refine wp_region_below_lit (by kernel_rfl) (by kernel_rfl) ?_; (repeat (first | go_big_quiet_step ((go_at_call 15; exact quiet_ov (LatestTurn_spec _ _ _ _ _ _))) | quiet_step ((go_at_call 15; exact quiet_ov (LatestTurn_spec _ _ _ _ _ _))))); refine wpQuiet_nil ?_; intro w1 hb1; have hz1 := hb1.size; (try (simp at hz1)); obtain ⟨hcw1, hfw1⟩ := bcell hb1; (try (have hy1 : w.heap.size < w1.heap.size := by omega)); (try (have hyy1 : w.heap.size + 1 < w1.heap.size := by omega)))
            go_wp2
            go_ret3
            exact ⟨ret_iib HF.out.1.symm HF.out.2.symm HF0.out.symm, (by repeat (first | (with_reducible exact Below.refl _ _) | (with_reducible refine below_ov ?_ ?_) | (with_reducible refine Below.setCell ?_ ?_ _) | (with_reducible refine Below.alloc ?_ ?_ _) | (with_reducible refine Below.drew ?_) | (with_reducible refine below_drewN ?_ _) | (refine Below.trans ?_ (Below.mono ‹Below _ _ _› (by first | omega | (simp; done) | (simp; omega)))) | exact Below.refl _ _ | omega | (focus (simp; done)) | (focus (simp; omega))))⟩
          | true =>
            have HG : Hid (tmOk v b r way res k = true) := hok
            have hl : tmN v b r way res k = lateN (v k) (b k) (r k) way res := rfl
            have HL := hide hl
            clear hl
            cases d1 : decide (tbI (tmN v b r way res) k < 0) with
            | true =>
              have HT := hide (tb_yes (l := tmN v b r way res) (k := k) (.inl (of_decide_eq_true d1)))
              go_wp2_with fail
              (refine wp_region_below_lit (by kernel_rfl) (by kernel_rfl) ?_; (repeat (first | go_big_quiet_step ((go_at_call 15; exact quiet_ov (LatestTurn_spec _ _ _ _ _ _))) | quiet_step ((go_at_call 15; exact quiet_ov (LatestTurn_spec _ _ _ _ _ _))))); refine wpQuiet_nil ?_; intro w1 hb1; have hz1 := hb1.size; (try (simp at hz1)); obtain ⟨hcw1, hfw1⟩ := bcell hb1; (try (have hy1 : w.heap.size < w1.heap.size := by omega)); (try (have hyy1 : w.heap.size + 1 < w1.heap.size := by omega)))
              go_wp2
              go_roundw
              case rel => exact ⟨k + 1, by omega, by go_num, by rw [HT.out.1], by rw [HT.out.2, HL.out], upto_snoc hj.out HG.out, (by repeat (first | (with_reducible exact Below.refl _ _) | (with_reducible refine below_ov ?_ ?_) | (with_reducible refine Below.setCell ?_ ?_ _) | (with_reducible refine Below.alloc ?_ ?_ _) | (with_reducible refine Below.drew ?_) | (with_reducible refine below_drewN ?_ _) | (refine Below.trans ?_ (Below.mono ‹Below _ _ _› (by first | omega | (simp; done) | (simp; omega)))) | exact Below.refl _ _ | omega | (focus (simp; done)) | (focus (simp; omega))))⟩
              case measure => simp [intOf]; omega
            | false =>
              cases d2 : decide (lateN (v k) (b k) (r k) way res < tbL (tmN v b r way res) k) with
              | true =>
                have HT := hide (tb_yes (l := tmN v b r way res) (k := k) (.inr (of_decide_eq_true d2)))
                go_wp2_with fail
                (refine wp_region_below_lit (by kernel_rfl) (by kernel_rfl) ?_; (repeat (first | go_big_quiet_step ((go_at_call 15; exact quiet_ov (LatestTurn_spec _ _ _ _ _ _))) | quiet_step ((go_at_call 15; exact quiet_ov (LatestTurn_spec _ _ _ _ _ _))))); refine wpQuiet_nil ?_; intro w1 hb1; have hz1 := hb1.size; (try (simp at hz1)); obtain ⟨hcw1, hfw1⟩ := bcell hb1; (try (have hy1 : w.heap.size < w1.heap.size := by omega)); (try (have hyy1 : w.heap.size + 1 < w1.heap.size := by omega)))
                go_wp2
                go_roundw
                case rel => exact ⟨k + 1, by omega, by go_num, by rw [HT.out.1], by rw [HT.out.2, HL.out], upto_snoc hj.out HG.out, (by repeat (first | (with_reducible exact Below.refl _ _) | (with_reducible refine below_ov ?_ ?_) | (with_reducible refine Below.setCell ?_ ?_ _) | (with_reducible refine Below.alloc ?_ ?_ _) | (with_reducible refine Below.drew ?_) | (with_reducible refine below_drewN ?_ _) | (refine Below.trans ?_ (Below.mono ‹Below _ _ _› (by first | omega | (simp; done) | (simp; omega)))) | exact Below.refl _ _ | omega | (focus (simp; done)) | (focus (simp; omega))))⟩
                case measure => simp [intOf]; omega
              | false =>
                have HT := hide (tb_no (l := tmN v b r way res) (k := k) (of_decide_eq_false d1) (of_decide_eq_false d2))
                go_wp2_with fail
                (refine wp_region_below_lit (by kernel_rfl) (by kernel_rfl) ?_; (repeat (first | go_big_quiet_step ((go_at_call 15; exact quiet_ov (LatestTurn_spec _ _ _ _ _ _))) | quiet_step ((go_at_call 15; exact quiet_ov (LatestTurn_spec _ _ _ _ _ _))))); refine wpQuiet_nil ?_; intro w1 hb1; have hz1 := hb1.size; (try (simp at hz1)); obtain ⟨hcw1, hfw1⟩ := bcell hb1; (try (have hy1 : w.heap.size < w1.heap.size := by omega)); (try (have hyy1 : w.heap.size + 1 < w1.heap.size := by omega)))
                go_wp2
                go_roundw
                case rel => exact ⟨k + 1, by omega, by go_num, by rw [HT.out.1], by rw [HT.out.2], upto_snoc hj.out HG.out, (by repeat (first | (with_reducible exact Below.refl _ _) | (with_reducible refine below_ov ?_ ?_) | (with_reducible refine Below.setCell ?_ ?_ _) | (with_reducible refine Below.alloc ?_ ?_ _) | (with_reducible refine Below.drew ?_) | (with_reducible refine below_drewN ?_ _) | (refine Below.trans ?_ (Below.mono ‹Below _ _ _› (by first | omega | (simp; done) | (simp; omega)))) | exact Below.refl _ _ | omega | (focus (simp; done)) | (focus (simp; omega))))⟩
                case measure => simp [intOf]; omega
        · obtain rfl : k = n := by omega
          have HF0 : Hid (teamB v b r way res k k = true) := by
            show teamB v b r way res k k = true
            rw [teamB, hin, allB_iff.2 hj.out]; simp
          have HF := hide (team_yes HF0.out)
          go_wp2_with fail
          go_ret3
          exact ⟨ret_iib HF.out.1.symm HF.out.2.symm HF0.out.symm, hb⟩
    · have HG : Hid (teamB v b r way res n n' = false) := by show teamB v b r way res n n' = false; simp [teamB, hnn]
      have HF := hide (team_no HG.out)
      have hne : ((n' : Int) != (n : Int)) = true := by rw [bne_iff_ne]; omega
      clear hnn
      go_enter Try.func29, Try.ntmps29
      go_wp2_with (go_at_call 39; refine (l1In_any _ _ _ _).mono ?_; rintro e w' ⟨rfl, rfl⟩)
      go_ret3
      exact ⟨ret_iib HF.out.1.symm HF.out.2.symm HG.out.symm, Below.refl _ _⟩

theorem tm_ask {v b r : Nat → Int} {way res : Int} {i : Nat} (h : askB (v i) (b i) (r i) way res = false) : tmOk v b r way res i = false := by simp [tmOk, lateOk, h]
theorem team_ask {v b r : Nat → Int} {way res : Int} {n n' i : Nat} (hi : i < n) (h : askB (v i) (b i) (r i) way res = false) : teamB v b r way res n n' = false := by
  rw [teamB, allB_false hi (tm_ask h)]; simp
theorem ask_way {v b r way res : Int} (h : inB way 0 300 = false ∨ inB res 0 100 = false ∨ cylB v b = false ∨ inB r 1 200 = false) : askB v b r way res = false := by
  rcases h with h | h | h | h <;> simp [askB, h]
set_option maxRecDepth 100000 in
set_option maxHeartbeats 3200000 in
theorem TeamTurn_impl (v b r : Nat → Int) (way res : Int) (n n' lo hi lo' hi' : Nat) (x y : Value) (w : World) (hx : Sl w lo hi 2 x n (iiC v b)) (hy : Sl w lo' hi' 1 y n' (iC r)) (hhi : hi ≤ w.heap.size) (hhi' : hi' ≤ w.heap.size) :
    Calls Try.prog 28 #[x, y, .int .i64 way, .int .i64 res] w fun e w' => e = .returned (.tuple #[.int .i64 (teamI v b r way res n n'), .int .i64 (teamL v b r way res n n'), .bool (teamB v b r way res n n')]) ∧ Below w.heap.size w w' := by
  obtain ⟨A, cap, rfl, hcap, hA⟩ := hx.open_
  obtain ⟨A', cap', rfl, hcap', hA'⟩ := hy.open_
  clear hx hy
  cases hin : inB n 2 4 with
  | false =>
    have HF := hide (team_no (v := v) (b := b) (r := r) (way := way) (res := res) (n := n) (n' := n') (by simp [teamB, hin]))
    have HG : Hid (teamB v b r way res n n' = false) := by show teamB v b r way res n n' = false; simp [teamB, hin]
    go_enter Try.func28, Try.ntmps28
    go_wp2_with (go_at_call 46; refine (inside_any _ _ _ _).mono ?_; rintro e w' ⟨rfl, rfl⟩)
    go_ret3
    exact ⟨ret_iib HF.out.1.symm HF.out.2.symm HG.out.symm, Below.refl _ _⟩
  | true =>
    have hn4 := inB_iff.1 hin
    by_cases hnn : n = n'
    · subst hnn
      have hne : ((n : Int) != (n : Int)) = false := by simp
      cases hc1_0 : inB way 0 300 with
      | false =>
        have HG : Hid (teamB v b r way res n n = false) := by
          show teamB v b r way res n n = false
          exact team_ask (i := 0) (by omega) (ask_way (by simp [*]))
        have HF := hide (team_no HG.out)
        go_enter Try.func28, Try.ntmps28
        go_wp2_with (go_at_call 46; refine (inside_any _ _ _ _).mono ?_; rintro e w' ⟨rfl, rfl⟩)
        go_ret3
        exact ⟨ret_iib HF.out.1.symm HF.out.2.symm HG.out.symm, Below.refl _ _⟩
      | true =>
        obtain ⟨hc1_0l, hc1_0r⟩ := inB_iff.1 hc1_0
        cases hc1_1 : inB res 0 100 with
        | false =>
          have HG : Hid (teamB v b r way res n n = false) := by
            show teamB v b r way res n n = false
            exact team_ask (i := 0) (by omega) (ask_way (by simp [*]))
          have HF := hide (team_no HG.out)
          go_enter Try.func28, Try.ntmps28
          go_wp2_with (go_at_call 46; refine (inside_any _ _ _ _).mono ?_; rintro e w' ⟨rfl, rfl⟩)
          go_ret3
          exact ⟨ret_iib HF.out.1.symm HF.out.2.symm HG.out.symm, Below.refl _ _⟩
        | true =>
          obtain ⟨hc1_1l, hc1_1r⟩ := inB_iff.1 hc1_1
          go_enter Try.func28, Try.ntmps28
          go_wp2_with (go_at_call 46; refine (inside_any _ _ _ _).mono ?_; rintro e w' ⟨rfl, rfl⟩)
          go_loopw [42] (fun i wr => ∃ k : Nat, k ≤ n ∧ i = .int .i64 k ∧ Hid (∀ j, j < k → cylB (v j) (b j) = true ∧ inB (r j) 1 200 = true) ∧ Below w.heap.size w wr) (fun i _ => n - (intOf i).toNat)
          case atStart => exact ⟨0, by omega, rfl, fun j hj => by omega, Below.refl _ _⟩
          case round =>
            obtain ⟨k, hk, rfl, hj, hb⟩ := hrel
            have hzr := hb.size
            by_cases hkn : k < n
            · obtain ⟨blk, off, rfl, h1, h2, h3⟩ := (hA.below hb (by omega)) (by omega)
              obtain ⟨blk', off', rfl, h1', h2', h3'⟩ := (hA'.below hb (by omega)) (by omega)
              have c0 : wr.cell? ⟨blk, off + k * 2, none⟩ = some (.int .i64 (v k)) := h3 k 0 hkn (by omega)
              have c1 : wr.cell? ⟨blk, off + k * 2 + 1, none⟩ = some (.int .i64 (b k)) := h3 k 1 hkn (by omega)
              have e0 : wr.cell? ⟨blk', off' + k, none⟩ = some (.int .i64 (r k)) := by have hh := h3' k 0 hkn (by omega); rw [Nat.mul_one, Nat.add_zero] at hh; exact hh
              have g1 : blk' < wr.heap.size := by omega
              have g2 : blk' ≤ wr.heap.size := by omega
              clear h3 hA h3' hA'
              cases hc : cylB (v k) (b k) with
              | false =>
                have HG : Hid (teamB v b r way res n n = false) := team_ask hkn (ask_way (.inr (.inr (.inl hc))))
                have HF := hide (team_no HG.out)
                go_wp2_with (first | (go_at_call 43; refine (isCylinder_any _ _ _).mono ?_; rintro e w1 ⟨rfl, hb1⟩; have hz1 := hb1.size; (try (simp at hz1)); obtain ⟨hcw1, hfw1⟩ := bcell hb1; (try (have hy1 : w.heap.size < w1.heap.size := by omega)); (try (have hyy1 : w.heap.size + 1 < w1.heap.size := by omega)); (try (have hyyy1 : w.heap.size + 1 + 1 < w1.heap.size := by omega))) | (go_at_call 50; refine (isRate_any _ _).mono ?_; rintro e w' ⟨rfl, rfl⟩))
                go_ret3
                exact ⟨ret_iib HF.out.1.symm HF.out.2.symm HG.out.symm, (by repeat (first | (with_reducible exact Below.refl _ _) | (with_reducible refine below_ov ?_ ?_) | (with_reducible refine Below.setCell ?_ ?_ _) | (with_reducible refine Below.alloc ?_ ?_ _) | (with_reducible refine Below.drew ?_) | (with_reducible refine below_drewN ?_ _) | (refine Below.trans ?_ (Below.mono ‹Below _ _ _› (by first | omega | (simp; done) | (simp; omega)))) | exact Below.refl _ _ | omega | (focus (simp; done)) | (focus (simp; omega))))⟩
              | true =>
                cases hr : inB (r k) 1 200 with
                | false =>
                  have HG : Hid (teamB v b r way res n n = false) := team_ask hkn (ask_way (.inr (.inr (.inr hr))))
                  have HF := hide (team_no HG.out)
                  go_wp2_with (first | (go_at_call 43; refine (isCylinder_any _ _ _).mono ?_; rintro e w1 ⟨rfl, hb1⟩; have hz1 := hb1.size; (try (simp at hz1)); obtain ⟨hcw1, hfw1⟩ := bcell hb1; (try (have hy1 : w.heap.size < w1.heap.size := by omega)); (try (have hyy1 : w.heap.size + 1 < w1.heap.size := by omega)); (try (have hyyy1 : w.heap.size + 1 + 1 < w1.heap.size := by omega))) | (go_at_call 50; refine (isRate_any _ _).mono ?_; rintro e w' ⟨rfl, rfl⟩))
                  go_ret3
                  exact ⟨ret_iib HF.out.1.symm HF.out.2.symm HG.out.symm, (by repeat (first | (with_reducible exact Below.refl _ _) | (with_reducible refine below_ov ?_ ?_) | (with_reducible refine Below.setCell ?_ ?_ _) | (with_reducible refine Below.alloc ?_ ?_ _) | (with_reducible refine Below.drew ?_) | (with_reducible refine below_drewN ?_ _) | (refine Below.trans ?_ (Below.mono ‹Below _ _ _› (by first | omega | (simp; done) | (simp; omega)))) | exact Below.refl _ _ | omega | (focus (simp; done)) | (focus (simp; omega))))⟩
                | true =>
                  have HG : Hid (cylB (v k) (b k) = true ∧ inB (r k) 1 200 = true) := ⟨hc, hr⟩
                  go_wp2_with (first | (go_at_call 43; refine (isCylinder_any _ _ _).mono ?_; rintro e w1 ⟨rfl, hb1⟩; have hz1 := hb1.size; (try (simp at hz1)); obtain ⟨hcw1, hfw1⟩ := bcell hb1; (try (have hy1 : w.heap.size < w1.heap.size := by omega)); (try (have hyy1 : w.heap.size + 1 < w1.heap.size := by omega)); (try (have hyyy1 : w.heap.size + 1 + 1 < w1.heap.size := by omega))) | (go_at_call 50; refine (isRate_any _ _).mono ?_; rintro e w' ⟨rfl, rfl⟩))
                  go_roundw
                  case rel => exact ⟨k + 1, by omega, by go_num, fun j a => by
                    rcases Nat.lt_or_ge j k with h | h
                    · exact hj.out j h
                    · obtain rfl : j = k := by omega
                      exact HG.out, (by repeat (first | (with_reducible exact Below.refl _ _) | (with_reducible refine below_ov ?_ ?_) | (with_reducible refine Below.setCell ?_ ?_ _) | (with_reducible refine Below.alloc ?_ ?_ _) | (with_reducible refine Below.drew ?_) | (with_reducible refine below_drewN ?_ _) | (refine Below.trans ?_ (Below.mono ‹Below _ _ _› (by first | omega | (simp; done) | (simp; omega)))) | exact Below.refl _ _ | omega | (focus (simp; done)) | (focus (simp; omega))))⟩
                  case measure => simp [intOf]; omega
            · obtain rfl : k = n := by omega
              have HV := hide hj.out
              clear hj hkn hk
              go_wp2_with fail
              go_loopw [13, 14, 61] (fun who lst i wr' => ∃ q : Nat, q ≤ k ∧ i = .int .i64 q ∧ who = .int .i64 (tbI (tmN v b r way res) q) ∧ lst = .int .i64 (tbL (tmN v b r way res) q) ∧ Hid (∀ j, j < q → tmOk v b r way res j = true) ∧ Below w.heap.size w wr') (fun _ _ i _ => k - (intOf i).toNat)
              case atStart => exact ⟨0, by omega, rfl, rfl, rfl, fun j hj => by omega, hb⟩
              case round =>
                obtain ⟨q, hq, rfl, rfl, rfl, hj, hb'⟩ := hrel
                have hzr' := hb'.size
                clear hb
                by_cases hkn : q < k
                · obtain ⟨blk, off, rfl, h1, h2, h3⟩ := (hA.below hb' (by omega)) (by omega)
                  obtain ⟨blk', off', rfl, h1', h2', h3'⟩ := (hA'.below hb' (by omega)) (by omega)
                  have c0 : wr.cell? ⟨blk, off + q * 2, none⟩ = some (.int .i64 (v q)) := h3 q 0 hkn (by omega)
                  have c1 : wr.cell? ⟨blk, off + q * 2 + 1, none⟩ = some (.int .i64 (b q)) := h3 q 1 hkn (by omega)
                  have e0 : wr.cell? ⟨blk', off' + q, none⟩ = some (.int .i64 (r q)) := by have hh := h3' q 0 hkn (by omega); rw [Nat.mul_one, Nat.add_zero] at hh; exact hh
                  have g1 : blk' < wr.heap.size := by omega
                  have g2 : blk' ≤ wr.heap.size := by omega
                  clear h3 hA h3' hA'
                  obtain ⟨hcq, hrq⟩ := HV.out q hkn
                  have HA : Hid (askB (v q) (b q) (r q) way res = true) := by show askB (v q) (b q) (r q) way res = true; simp [askB, *]
                  obtain ⟨⟨i1, i2⟩, i3, i4⟩ := cylB_iff.1 hcq
                  obtain ⟨i5, i6⟩ := inB_iff.1 hrq
                  clear hcq hrq
                  have HL : Hid (tmN v b r way res q = latN (v q) (b q) (r q) way res) := by show lateN _ _ _ _ _ = _; rw [lateN, if_pos HA.out]
                  cases hok : latOk (v q) (b q) (r q) way res with
                  | false =>
                    have HG : Hid (teamB v b r way res k k = false) := by
                      show teamB v b r way res k k = false
                      rw [teamB, allB_false hkn (show tmOk v b r way res q = false by simp [tmOk, lateOk, hok])]; simp
                    have HF := hide (team_no HG.out)
                    clear HA
                    go_wp2_with fail
                    (refine wp_region_below_lit (by kernel_rfl) (by kernel_rfl) ?_; (repeat (first | go_big_quiet_step ((go_at_call 51; exact quiet_ov (latestTurn_any _ _ _ _ _ _ (by omega) (by omega) (by omega) (by omega) (by omega) (by omega) (by omega) (by omega)))) | quiet_step ((go_at_call 51; exact quiet_ov (latestTurn_any _ _ _ _ _ _ (by omega) (by omega) (by omega) (by omega) (by omega) (by omega) (by omega) (by omega)))))); refine wpQuiet_nil ?_; intro w1 hb1; have hz1 := hb1.size; (try (simp at hz1)); obtain ⟨hcw1, hfw1⟩ := bcell hb1; (try (have hy1 : w.heap.size < w1.heap.size := by omega)); (try (have hyy1 : w.heap.size + 1 < w1.heap.size := by omega)))
                    go_wp2
                    go_ret3
                    exact ⟨ret_iib HF.out.1.symm HF.out.2.symm HG.out.symm, (by repeat (first | (with_reducible exact Below.refl _ _) | (with_reducible refine below_ov ?_ ?_) | (with_reducible refine Below.setCell ?_ ?_ _) | (with_reducible refine Below.alloc ?_ ?_ _) | (with_reducible refine Below.drew ?_) | (with_reducible refine below_drewN ?_ _) | (refine Below.trans ?_ (Below.mono ‹Below _ _ _› (by first | omega | (simp; done) | (simp; omega)))) | exact Below.refl _ _ | omega | (focus (simp; done)) | (focus (simp; omega))))⟩
                  | true =>
                    have HG : Hid (tmOk v b r way res q = true) := by show lateOk _ _ _ _ _ = true; simp [lateOk, hok, HA.out]
                    cases d1 : decide (tbI (tmN v b r way res) q < 0) with
                    | true =>
                      have HT := hide (tb_yes (l := tmN v b r way res) (k := q) (.inl (of_decide_eq_true d1)))
                      go_wp2_with fail
                      (refine wp_region_below_lit (by kernel_rfl) (by kernel_rfl) ?_; (repeat (first | go_big_quiet_step ((go_at_call 51; exact quiet_ov (latestTurn_any _ _ _ _ _ _ (by omega) (by omega) (by omega) (by omega) (by omega) (by omega) (by omega) (by omega)))) | quiet_step ((go_at_call 51; exact quiet_ov (latestTurn_any _ _ _ _ _ _ (by omega) (by omega) (by omega) (by omega) (by omega) (by omega) (by omega) (by omega)))))); refine wpQuiet_nil ?_; intro w1 hb1; have hz1 := hb1.size; (try (simp at hz1)); obtain ⟨hcw1, hfw1⟩ := bcell hb1; (try (have hy1 : w.heap.size < w1.heap.size := by omega)); (try (have hyy1 : w.heap.size + 1 < w1.heap.size := by omega)))
                      go_wp2
                      go_roundw
                      case rel => exact ⟨q + 1, by omega, by go_num, by rw [HT.out.1], by rw [HT.out.2, HL.out], upto_snoc hj.out HG.out, (by repeat (first | (with_reducible exact Below.refl _ _) | (with_reducible refine below_ov ?_ ?_) | (with_reducible refine Below.setCell ?_ ?_ _) | (with_reducible refine Below.alloc ?_ ?_ _) | (with_reducible refine Below.drew ?_) | (with_reducible refine below_drewN ?_ _) | (refine Below.trans ?_ (Below.mono ‹Below _ _ _› (by first | omega | (simp; done) | (simp; omega)))) | exact Below.refl _ _ | omega | (focus (simp; done)) | (focus (simp; omega))))⟩
                      case measure => simp [intOf]; omega
                    | false =>
                      cases d2 : decide (latN (v q) (b q) (r q) way res < tbL (tmN v b r way res) q) with
                      | true =>
                        have HT := hide (tb_yes (l := tmN v b r way res) (k := q) (.inr (by rw [HL.out]; exact of_decide_eq_true d2)))
                        go_wp2_with fail
                        (refine wp_region_below_lit (by kernel_rfl) (by kernel_rfl) ?_; (repeat (first | go_big_quiet_step ((go_at_call 51; exact quiet_ov (latestTurn_any _ _ _ _ _ _ (by omega) (by omega) (by omega) (by omega) (by omega) (by omega) (by omega) (by omega)))) | quiet_step ((go_at_call 51; exact quiet_ov (latestTurn_any _ _ _ _ _ _ (by omega) (by omega) (by omega) (by omega) (by omega) (by omega) (by omega) (by omega)))))); refine wpQuiet_nil ?_; intro w1 hb1; have hz1 := hb1.size; (try (simp at hz1)); obtain ⟨hcw1, hfw1⟩ := bcell hb1; (try (have hy1 : w.heap.size < w1.heap.size := by omega)); (try (have hyy1 : w.heap.size + 1 < w1.heap.size := by omega)))
                        go_wp2
                        go_roundw
                        case rel => exact ⟨q + 1, by omega, by go_num, by rw [HT.out.1], by rw [HT.out.2, HL.out], upto_snoc hj.out HG.out, (by repeat (first | (with_reducible exact Below.refl _ _) | (with_reducible refine below_ov ?_ ?_) | (with_reducible refine Below.setCell ?_ ?_ _) | (with_reducible refine Below.alloc ?_ ?_ _) | (with_reducible refine Below.drew ?_) | (with_reducible refine below_drewN ?_ _) | (refine Below.trans ?_ (Below.mono ‹Below _ _ _› (by first | omega | (simp; done) | (simp; omega)))) | exact Below.refl _ _ | omega | (focus (simp; done)) | (focus (simp; omega))))⟩
                        case measure => simp [intOf]; omega
                      | false =>
                        have HT := hide (tb_no (l := tmN v b r way res) (k := q) (of_decide_eq_false d1) (by rw [HL.out]; exact of_decide_eq_false d2))
                        go_wp2_with fail
                        (refine wp_region_below_lit (by kernel_rfl) (by kernel_rfl) ?_; (repeat (first | go_big_quiet_step ((go_at_call 51; exact quiet_ov (latestTurn_any _ _ _ _ _ _ (by omega) (by omega) (by omega) (by omega) (by omega) (by omega) (by omega) (by omega)))) | quiet_step ((go_at_call 51; exact quiet_ov (latestTurn_any _ _ _ _ _ _ (by omega) (by omega) (by omega) (by omega) (by omega) (by omega) (by omega) (by omega)))))); refine wpQuiet_nil ?_; intro w1 hb1; have hz1 := hb1.size; (try (simp at hz1)); obtain ⟨hcw1, hfw1⟩ := bcell hb1; (try (have hy1 : w.heap.size < w1.heap.size := by omega)); (try (have hyy1 : w.heap.size + 1 < w1.heap.size := by omega)))
                        go_wp2
                        go_roundw
                        case rel => exact ⟨q + 1, by omega, by go_num, by rw [HT.out.1], by rw [HT.out.2], upto_snoc hj.out HG.out, (by repeat (first | (with_reducible exact Below.refl _ _) | (with_reducible refine below_ov ?_ ?_) | (with_reducible refine Below.setCell ?_ ?_ _) | (with_reducible refine Below.alloc ?_ ?_ _) | (with_reducible refine Below.drew ?_) | (with_reducible refine below_drewN ?_ _) | (refine Below.trans ?_ (Below.mono ‹Below _ _ _› (by first | omega | (simp; done) | (simp; omega)))) | exact Below.refl _ _ | omega | (focus (simp; done)) | (focus (simp; omega))))⟩
                        case measure => simp [intOf]; omega
                · obtain rfl : q = k := by omega
                  have HF0 : Hid (teamB v b r way res q q = true) := by
                    show teamB v b r way res q q = true
                    rw [teamB, hin, allB_iff.2 hj.out]; simp
                  have HF := hide (team_yes HF0.out)
                  go_wp2_with fail
                  go_ret3
                  exact ⟨ret_iib HF.out.1.symm HF.out.2.symm HF0.out.symm, hb'⟩
    · have HG : Hid (teamB v b r way res n n' = false) := by show teamB v b r way res n n' = false; simp [teamB, hnn]
      have HF := hide (team_no HG.out)
      have hne : ((n' : Int) != (n : Int)) = true := by rw [bne_iff_ne]; omega
      clear hnn
      go_enter Try.func28, Try.ntmps28
      go_wp2_with (go_at_call 46; refine (inside_any _ _ _ _).mono ?_; rintro e w' ⟨rfl, rfl⟩)
      go_ret3
      exact ⟨ret_iib HF.out.1.symm HF.out.2.symm HG.out.symm, Below.refl _ _⟩

end Go.Proofs.Yteoolhoncgaapaa
