/-
  Texts of this proof, one behind the other (part 3).
-/
import Derived.Test.YtnfhgnibjebmlaaQ2
/-
  Walks: the reference's cursor: a text of a list. Whatever is drawn, it is one of them.-/
namespace Go.Proofs.Ytnfhgnibjebmlaa
set_option linter.unusedVariables false
set_option linter.unusedSimpArgs false
open Go.RowKit

def isS : Value → Bool
  | .string _ => true
  | _ => false
theorem isS_str {v : Value} (h : isS v = true) : ∃ x, v = .string x := by
  unfold isS at h
  split at h
  · exact ⟨_, rfl⟩
  · cases h
set_option maxRecDepth 100000 in
set_option maxHeartbeats 1600000 in
theorem of_any (g m b off n cap : Nat) (w : World) (h : Cu w g m) (hm : m < 549755813888) (hn : 0 < n) (hn' : n ≤ 1000000) (hne : b ≠ g) (hb : b < w.heap.size) (hc : ∀ i, i < n → ∃ x, w.cell? ⟨b, off + i, none⟩ = some (.string x)) :
    Calls Try.prog 31 #[.pointer (some ⟨g, 0, none⟩), .slice (some ⟨b, off, none⟩) n cap] w fun e w' => ∃ v : ByteArray, e = .returned (.string v) ∧ (∃ i, i < n ∧ w.cell? ⟨b, off + i, none⟩ = some (.string v)) ∧ Cu w' g (m + 2) ∧ Only g (g + 1) w w' := by
  have HC := hide hc
  clear hc
  go_enter Try.func31, Try.ntmps31
  go_wp2_with fail
  refine (pick_any g m n _ h hm).mono ?_
  rintro e w1 ⟨v, rfl, hv, hc1, ho1⟩
  obtain ⟨k, rfl⟩ : ∃ k : Nat, v = k := ⟨v.toNat, by omega⟩
  have hk : k < n := by omega
  obtain ⟨x, hx⟩ := HC.out k hk
  have ck : w1.cell? ⟨b, off + k, none⟩ = some (.string x) := (ho1.cell (p := ⟨b, off + k, none⟩) hb (by show b < g ∨ g + 1 ≤ b; omega)).trans hx
  have hs := ho1.size
  have hb1 : b < w1.heap.size := by omega
  have HX : Hid (∃ i, i < n ∧ w.cell? ⟨b, off + i, none⟩ = some (.string x)) := ⟨k, hk, hx⟩
  clear hx
  go_wp2_with fail
  go_ret
  exact ⟨x, rfl, HX.out, hc1, ho1⟩
/-- One of a list that was just laid. -/
theorem of_new (g m n q : Nat) (w : World) (cs : Array Value) (t : TypeId) (h : Cu w g m) (hq : q = w.heap.size) (hm : m < 549755813888) (hn : cs.size = n) (hn0 : 0 < n) (hn' : n ≤ 1000000) (hall : cs.all isS = true) :
    Calls Try.prog 31 #[.pointer (some ⟨g, 0, none⟩), .slice (some ⟨q, 0, none⟩) n n] (w.alloc (.cells cs t)) fun e w' => ∃ v : ByteArray, e = .returned (.string v) ∧ (.string v) ∈ cs.toList ∧ Cu w' g (m + 2) ∧ Only g (g + 1) w w' := by
  subst hq
  have hlt := h.lt
  refine (of_any g m w.heap.size 0 n n _ (h.alloc _) hm hn0 hn' (by omega) (by simp) fun i hi => ?_).mono fun e w' ⟨v, h1, ⟨i, hi, hv⟩, h2, h3⟩ => ⟨v, h1, ?_, h2, ((Only.refl _ _ w).alloc _).trans h3⟩
  rotate_left
  · rw [Nat.zero_add, World.cell?_alloc_new] at hv
    exact Array.mem_toList_iff.2 (Array.mem_of_getElem? hv)
  have hi' : i < cs.size := by omega
  have h1 := (Array.all_eq_true.1 hall) i hi'
  obtain ⟨x, hx⟩ := isS_str h1
  refine ⟨x, ?_⟩
  rw [Nat.zero_add, World.cell?_alloc_new]
  rw [Array.getElem?_eq_getElem hi', hx]

end Go.Proofs.Ytnfhgnibjebmlaa

/-
  Walks: the exported functions on cylinders that take numbers and cylinders alone.-/
namespace Go.Proofs.Ytnfhgnibjebmlaa
set_option linter.unusedVariables false
set_option linter.unusedSimpArgs false
open Go.RowKit

/-- What a latest turn hands back. -/
def latN (v b r way res : Int) : Int := if timeF v b r way res < 0 then 0 else timeF v b r way res
def latOk (v b r way res : Int) : Bool := decide (0 ≤ timeF v b r way res)

theorem lat_yes {v b r way res : Int} (hr : 0 ≤ r) {k : Nat} (hk : k ≤ 600) (hg : okAt v b r way res k = true) (h : ∀ j, k < j → j ≤ 600 → okAt v b r way res j = false) : timeF v b r way res = k := by
  rw [timeF_of (k := k + 1) (by omega) (fun j hj => okAt_mono hr (by omega) hg) (by
    rcases Nat.lt_or_ge k 600 with h1 | h1
    · exact .inr (h _ (by omega) (by omega))
    · left; omega)]
  omega
theorem lat_no {v b r way res : Int} (h : ∀ j, j ≤ 600 → okAt v b r way res j = false) : timeF v b r way res = -1 := by
  rw [timeF_of (k := 0) (by omega) (fun j hj => by omega) (.inr (h 0 (by omega)))]
  omega
theorem mul_small {a b A B : Int} (ha : 0 ≤ a) (ha' : a ≤ A) (hb : 0 ≤ b) (hb' : b ≤ B) : 0 ≤ a * b ∧ a * b ≤ A * B := by
  refine ⟨Int.mul_nonneg ha hb, ?_⟩
  have h1 := Int.mul_le_mul_of_nonneg_left hb' ha
  have h2 := Int.mul_le_mul_of_nonneg_right ha' (show (0 : Int) ≤ B by omega)
  omega
set_option maxHeartbeats 800000 in
theorem latestTurn_any (v b r way res : Int) (w : World) (hv : 10 ≤ v) (hv' : v ≤ 3000) (h0 : 0 ≤ b) (h1 : b ≤ 330) (hr : 0 ≤ r) (hr' : r ≤ 200) (hf : 0 ≤ way) (hf' : way ≤ 300) :
    Calls Try.prog 76 #[.agg #[.int .i64 v, .int .i64 b], .int .i64 r, .int .i64 way, .int .i64 res] w fun e w' => e = .returned (.tuple #[.int .i64 (latN v b r way res), .bool (latOk v b r way res)]) ∧ Below w.heap.size w w' := by
  go_enter Try.func76, Try.ntmps76
  go_wp2_with fail
  go_loopw [10] (fun n wr => ∃ m : Nat, m ≤ 601 ∧ n = .int .i64 ((m : Int) - 1) ∧ Hid (∀ j, m ≤ j → j ≤ 600 → okAt v b r way res j = false) ∧ Below (w.heap.size + 1) (w.alloc (.cells #[.int .i64 v, .int .i64 b] 85)) wr) (fun n _ => (intOf n + 1).toNat)
  case atStart => exact ⟨601, by omega, by go_num, fun j hj => by omega, Below.refl _ _⟩
  case round =>
    obtain ⟨m, hk, rfl, hj, hb⟩ := hrel
    have c0 := box_cell hb (by omega) 0 (v := .int .i64 v) rfl
    have c1 := box_cell hb (by omega) 1 (v := .int .i64 b) rfl
    match m with
    | 0 =>
      go_wp2_with fail
      go_ret2
      have HT := lat_no (fun j h => hj.out j (by omega) h)
      exact ⟨ret_ib (by rw [latN, HT]; rfl) (by rw [latOk, HT]; rfl), (((Below.refl _ _).alloc (Nat.le_refl _) _).trans (hb.mono (by omega)))⟩
    | k + 1 =>
      rw [show (((k + 1 : Nat) : Int) - 1) = (k : Int) from by omega]
      have hmul := mul_small hr hr' (b := (k : Int) + way) (B := 900) (by omega) (by omega)
      by_cases hg : okAt v b r way res k = true
      · have HT := hide (lat_yes hr (by omega) hg (fun j a1 a2 => hj.out j (by omega) a2))
        have hg1 : aftOk v b (r * (k + way)) = true := by rw [Int.add_comm]; simp [okAt] at hg; exact hg.1
        have hg2 : decide (aftN v b (r * (k + way)) ≥ res) = true := by rw [Int.add_comm]; simp [okAt] at hg; simp; omega
        go_wp2_with (go_at_call 87; refine (barAfter_any _ _ _ _ hv hv' h0 h1 (by omega) (by omega)).mono ?_; rintro e w1 ⟨rfl, hb1⟩)
        go_ret2
        exact ⟨ret_ib (by rw [latN, HT.out, if_neg (by omega)]) (by rw [latOk, HT.out]; simp), ((((Below.refl _ _).alloc (Nat.le_refl _) _).trans (hb.mono (by omega))).trans (hb1.mono (by have := hb.size; simp at this; omega)))⟩
      · have hg' : okAt v b r way res k = false := by simpa using hg
        by_cases hg1 : aftOk v b (r * (k + way)) = true
        · have hg2 : decide (aftN v b (r * (k + way)) ≥ res) = false := by
            rw [Int.add_comm] at hg1 ⊢
            simp [okAt, hg1] at hg'; simp; omega
          go_wp2_with (go_at_call 87; refine (barAfter_any _ _ _ _ hv hv' h0 h1 (by omega) (by omega)).mono ?_; rintro e w1 ⟨rfl, hb1⟩)
          go_roundw
          case rel => exact ⟨k, by omega, by go_num, fun j a1 a2 => by
            rcases Nat.lt_or_ge k j with h | h
            · exact hj.out j h a2
            · obtain rfl : j = k := by omega
              exact hg', hb.trans (hb1.mono (by have := hb.size; simp at this; omega))⟩
          case measure => simp [intOf]
        · have hg3 : aftOk v b (r * (k + way)) = false := by simpa using hg1
          go_wp2_with (go_at_call 87; refine (barAfter_any _ _ _ _ hv hv' h0 h1 (by omega) (by omega)).mono ?_; rintro e w1 ⟨rfl, hb1⟩)
          go_roundw
          case rel => exact ⟨k, by omega, by go_num, fun j a1 a2 => by
            rcases Nat.lt_or_ge k j with h | h
            · exact hj.out j h a2
            · obtain rfl : j = k := by omega
              exact hg', hb.trans (hb1.mono (by have := hb.size; simp at this; omega))⟩
          case measure => simp [intOf]

end Go.Proofs.Ytnfhgnibjebmlaa

/-
  Walks: the exported functions on cylinders, of the program and of the reference: one plain function for both.-/
namespace Go.Proofs.Ytnfhgnibjebmlaa
set_option linter.unusedVariables false
set_option linter.unusedSimpArgs false
open Go.RowKit

def litInN (v b : Int) : Int := if cylB v b = true then lit v b else 0
def barAfB (v b r m : Int) : Bool := cylB v b && inB r 1 200 && inB m 0 600
def barAfN (v b r m : Int) : Int := if barAfB v b r m = true then aftN v b (r * m) else 0
def barAfOk (v b r m : Int) : Bool := barAfB v b r m && aftOk v b (r * m)
def askB (v b r way res : Int) : Bool := cylB v b && inB r 1 200 && inB way 0 300 && inB res 0 100
def mustB (v b r way res : Int) : Bool := askB v b r way res && (!aftOk v b (r * (way + 1)) || decide (aftN v b (r * (way + 1)) < res))
def lateN (v b r way res : Int) : Int := if askB v b r way res = true then latN v b r way res else 0
def lateOk (v b r way res : Int) : Bool := askB v b r way res && latOk v b r way res
def minB (v b r bar : Int) : Bool := cylB v b && inB r 1 200 && inB bar 0 330 && decide (bar ≤ b)
def minN (v b r bar : Int) : Int := if minB v b r bar = true then timeF v b r 0 bar else 0
def turnB (s t r : Int) : Bool := inB s 0 330 && inB t 0 s && inB r 0 100 && decide (s - t + r ≤ t)
def turnN (s t r : Int) : Int := if turnB s t r = true then s - t + r else 0

theorem below_box {w : World} {cs : Array Value} {t : TypeId} {w1 : World} (h : Below (w.heap.size + 1) (w.alloc (.cells cs t)) w1) : Below w.heap.size w w1 :=
  ((Below.refl _ _).alloc (Nat.le_refl _) _).trans (h.mono (by omega))
theorem box_size {w : World} {cs : Array Value} {t : TypeId} {B : Nat} {w1 : World} (h : Below B (w.alloc (.cells cs t)) w1) : w.heap.size + 1 ≤ w1.heap.size := by
  have := h.size; simp at this; omega


end Go.Proofs.Ytnfhgnibjebmlaa

/-
  Walks: lists of checks.-/
namespace Go.Proofs.Ytnfhgnibjebmlaa
set_option linter.unusedVariables false
set_option linter.unusedSimpArgs false
open Go.RowKit

def chk1 (m b : Nat → Int) (i : Nat) : Bool := inB (m i) 0 600 && inB (b i) 0 330 && (decide (i = 0) || (!decide (m i ≤ m (i - 1)) && !decide (b (i - 1) < b i)))
def chkB (m b : Nat → Int) (n : Nat) : Bool := allB (chk1 m b) n && inB n 1 20

theorem chkB_no {m b : Nat → Int} {n k : Nat} (hk : k < n) (h : chk1 m b k = false) : chkB m b n = false := by rw [chkB, allB_false hk h]; rfl
set_option maxRecDepth 100000 in
set_option maxHeartbeats 1600000 in
theorem areChecks_any (m b : Nat → Int) (n lo hi : Nat) (v : Value) (w : World) (hv : Sl w lo hi 2 v n (iiC m b)) (hhi : hi ≤ w.heap.size) (hn : n ≤ 4611686018427387904) :
    Calls Try.prog 61 #[v] w fun e w' => e = .returned (.bool (chkB m b n)) ∧ Below w.heap.size w w' := by
  obtain ⟨A, cap, rfl, hcap, hA⟩ := hv.open_
  clear hv
  go_enter Try.func61, Try.ntmps61
  go_wp2_with fail
  go_loopw [7] (fun i wr => ∃ k : Nat, k ≤ n ∧ i = .int .i64 k ∧ Hid (∀ j, j < k → chk1 m b j = true) ∧ Below w.heap.size w wr) (fun i _ => n - (intOf i).toNat)
  case atStart => exact ⟨0, by omega, rfl, fun j hj => by omega, Below.refl _ _⟩
  case round =>
    obtain ⟨k, hk, rfl, hj, hb⟩ := hrel
    have hzr := hb.size
    by_cases hlt : k < n
    · obtain ⟨blk, off, rfl, h1, h2, h3⟩ := (hA.below hb (by omega)) (by omega)
      have c0 : wr.cell? ⟨blk, off + k * 2, none⟩ = some (.int .i64 (m k)) := h3 k 0 hlt (by omega)
      have c1 : wr.cell? ⟨blk, off + k * 2 + 1, none⟩ = some (.int .i64 (b k)) := h3 k 1 hlt (by omega)
      have H3 := hide h3
      clear h3 hA
      have hbw : blk < wr.heap.size := by omega
      cases hc1_0 : inB (m k) 0 600 with
      | false =>
        have HF := hide (chkB_no (m := m) (b := b) hlt (by simp [chk1, *]))
        go_wp2_with fail
        go_quiet ((go_at_call 49; first | exact quiet_left (inside_any _ _ _ _) | exact quiet_add_left (inside_any _ _ _ _)))
        go_wp2
        go_ret
        exact ⟨ret_bool HF.out.symm, (by repeat (first | (with_reducible exact Below.refl _ _) | (with_reducible refine below_ov ?_ ?_) | (with_reducible refine Below.setCell ?_ ?_ _) | (with_reducible refine Below.alloc ?_ ?_ _) | (with_reducible refine Below.drew ?_) | (with_reducible refine below_drewN ?_ _) | (refine Below.trans ?_ (Below.mono ‹Below _ _ _› (by first | omega | (simp; done) | (simp; omega)))) | exact Below.refl _ _ | omega | (focus (simp; done)) | (focus (simp; omega))))⟩
      | true =>
        obtain ⟨hc1_0l, hc1_0r⟩ := inB_iff.1 hc1_0
        cases hc1_1 : inB (b k) 0 330 with
        | false =>
          have HF := hide (chkB_no (m := m) (b := b) hlt (by simp [chk1, *]))
          go_wp2_with fail
          go_quiet ((go_at_call 49; first | exact quiet_left (inside_any _ _ _ _) | exact quiet_add_left (inside_any _ _ _ _)))
          go_wp2
          go_ret
          exact ⟨ret_bool HF.out.symm, (by repeat (first | (with_reducible exact Below.refl _ _) | (with_reducible refine below_ov ?_ ?_) | (with_reducible refine Below.setCell ?_ ?_ _) | (with_reducible refine Below.alloc ?_ ?_ _) | (with_reducible refine Below.drew ?_) | (with_reducible refine below_drewN ?_ _) | (refine Below.trans ?_ (Below.mono ‹Below _ _ _› (by first | omega | (simp; done) | (simp; omega)))) | exact Below.refl _ _ | omega | (focus (simp; done)) | (focus (simp; omega))))⟩
        | true =>
          obtain ⟨hc1_1l, hc1_1r⟩ := inB_iff.1 hc1_1
          rcases Nat.eq_zero_or_pos k with hk0 | hk0
          · have d0 : decide (0 < k) = false := by simp; omega
            have dk : decide (k = 0) = true := by simp; omega
            clear hk0
            have HG : Hid (chk1 m b k = true) := by show chk1 m b k = true; simp only [chk1, *]; simp
            clear dk
            go_wp2_with fail
            go_quiet ((go_at_call 49; first | exact quiet_left (inside_any _ _ _ _) | exact quiet_add_left (inside_any _ _ _ _)))
            go_wp2
            go_roundw
            case rel => exact ⟨k + 1, by omega, by go_num, upto_snoc hj.out HG.out, (by repeat (first | (with_reducible exact Below.refl _ _) | (with_reducible refine below_ov ?_ ?_) | (with_reducible refine Below.setCell ?_ ?_ _) | (with_reducible refine Below.alloc ?_ ?_ _) | (with_reducible refine Below.drew ?_) | (with_reducible refine below_drewN ?_ _) | (refine Below.trans ?_ (Below.mono ‹Below _ _ _› (by first | omega | (simp; done) | (simp; omega)))) | exact Below.refl _ _ | omega | (focus (simp; done)) | (focus (simp; omega))))⟩
            case measure => simp [intOf]; omega
          · have d0 : decide (0 < k) = true := by simp; omega
            have p0 : wr.cell? ⟨blk, off + (k - 1) * 2, none⟩ = some (.int .i64 (m (k - 1))) := H3.out (k - 1) 0 (by omega) (by omega)
            have p1 : wr.cell? ⟨blk, off + (k - 1) * 2 + 1, none⟩ = some (.int .i64 (b (k - 1))) := H3.out (k - 1) 1 (by omega) (by omega)
            have dk : decide (k = 0) = false := by simp; omega
            cases d1 : decide (m (k - 1) ≥ m k) with
            | true =>
              have d1' : decide (m k ≤ m (k - 1)) = true := d1
              have HF := hide (chkB_no (m := m) (b := b) hlt (by simp [chk1, *]))
              clear dk
              go_wp2_with fail
              go_quiet ((go_at_call 49; first | exact quiet_left (inside_any _ _ _ _) | exact quiet_add_left (inside_any _ _ _ _)))
              go_wp2
              go_ret
              exact ⟨ret_bool HF.out.symm, (by repeat (first | (with_reducible exact Below.refl _ _) | (with_reducible refine below_ov ?_ ?_) | (with_reducible refine Below.setCell ?_ ?_ _) | (with_reducible refine Below.alloc ?_ ?_ _) | (with_reducible refine Below.drew ?_) | (with_reducible refine below_drewN ?_ _) | (refine Below.trans ?_ (Below.mono ‹Below _ _ _› (by first | omega | (simp; done) | (simp; omega)))) | exact Below.refl _ _ | omega | (focus (simp; done)) | (focus (simp; omega))))⟩
            | false =>
              have d1' : decide (m k ≤ m (k - 1)) = false := d1
              cases d2 : decide (b (k - 1) < b k) with
              | true =>
                have HF := hide (chkB_no (m := m) (b := b) hlt (by simp [chk1, *]))
                clear dk
                go_wp2_with fail
                go_quiet ((go_at_call 49; first | exact quiet_left (inside_any _ _ _ _) | exact quiet_add_left (inside_any _ _ _ _)))
                go_wp2
                go_ret
                exact ⟨ret_bool HF.out.symm, (by repeat (first | (with_reducible exact Below.refl _ _) | (with_reducible refine below_ov ?_ ?_) | (with_reducible refine Below.setCell ?_ ?_ _) | (with_reducible refine Below.alloc ?_ ?_ _) | (with_reducible refine Below.drew ?_) | (with_reducible refine below_drewN ?_ _) | (refine Below.trans ?_ (Below.mono ‹Below _ _ _› (by first | omega | (simp; done) | (simp; omega)))) | exact Below.refl _ _ | omega | (focus (simp; done)) | (focus (simp; omega))))⟩
              | false =>
                have HG : Hid (chk1 m b k = true) := by show chk1 m b k = true; simp only [chk1, *]; simp
                clear dk
                go_wp2_with fail
                go_quiet ((go_at_call 49; first | exact quiet_left (inside_any _ _ _ _) | exact quiet_add_left (inside_any _ _ _ _)))
                go_wp2
                go_roundw
                case rel => exact ⟨k + 1, by omega, by go_num, upto_snoc hj.out HG.out, (by repeat (first | (with_reducible exact Below.refl _ _) | (with_reducible refine below_ov ?_ ?_) | (with_reducible refine Below.setCell ?_ ?_ _) | (with_reducible refine Below.alloc ?_ ?_ _) | (with_reducible refine Below.drew ?_) | (with_reducible refine below_drewN ?_ _) | (refine Below.trans ?_ (Below.mono ‹Below _ _ _› (by first | omega | (simp; done) | (simp; omega)))) | exact Below.refl _ _ | omega | (focus (simp; done)) | (focus (simp; omega))))⟩
                case measure => simp [intOf]; omega
    · obtain rfl : k = n := by omega
      have HE : Hid (allB (chk1 m b) k = true) := allB_iff.2 hj.out
      go_wp2_with (go_at_call 49; refine (inside_any _ _ _ _).mono ?_; rintro e w' ⟨rfl, rfl⟩)
      go_ret
      exact ⟨ret_bool (by rw [chkB, HE.out]; rfl), hb⟩

end Go.Proofs.Ytnfhgnibjebmlaa

/-
  Walks: the laws' own helpers for Check: copies, comparisons, sizes (printed by gen_data.py).-/
namespace Go.Proofs.Ytnfhgnibjebmlaa
set_option linter.unusedVariables false
set_option linter.unusedSimpArgs false
open Go.RowKit


end Go.Proofs.Ytnfhgnibjebmlaa

/-
  Walks: lists of checks: the reference's, copies, comparisons, sizes; the exported AreChecks.-/
namespace Go.Proofs.Ytnfhgnibjebmlaa
set_option linter.unusedVariables false
set_option linter.unusedSimpArgs false
open Go.RowKit

set_option maxRecDepth 100000 in
set_option maxHeartbeats 1600000 in
theorem cyChecks_any (m b : Nat → Int) (n lo hi : Nat) (v : Value) (w : World) (hv : Sl w lo hi 2 v n (iiC m b)) (hhi : hi ≤ w.heap.size) (hn : n ≤ 4611686018427387904) :
    Calls Try.prog 72 #[v] w fun e w' => e = .returned (.bool (chkB m b n)) ∧ Below w.heap.size w w' := by
  obtain ⟨A, cap, rfl, hcap, hA⟩ := hv.open_
  clear hv
  go_enter Try.func72, Try.ntmps72
  go_wp2_with fail
  go_loopw [7] (fun i wr => ∃ k : Nat, k ≤ n ∧ i = .int .i64 k ∧ Hid (∀ j, j < k → chk1 m b j = true) ∧ Below w.heap.size w wr) (fun i _ => n - (intOf i).toNat)
  case atStart => exact ⟨0, by omega, rfl, fun j hj => by omega, Below.refl _ _⟩
  case round =>
    obtain ⟨k, hk, rfl, hj, hb⟩ := hrel
    have hzr := hb.size
    by_cases hlt : k < n
    · obtain ⟨blk, off, rfl, h1, h2, h3⟩ := (hA.below hb (by omega)) (by omega)
      have c0 : wr.cell? ⟨blk, off + k * 2, none⟩ = some (.int .i64 (m k)) := h3 k 0 hlt (by omega)
      have c1 : wr.cell? ⟨blk, off + k * 2 + 1, none⟩ = some (.int .i64 (b k)) := h3 k 1 hlt (by omega)
      have H3 := hide h3
      clear h3 hA
      have hbw : blk < wr.heap.size := by omega
      cases hc1_0 : inB (m k) 0 600 with
      | false =>
        have HF := hide (chkB_no (m := m) (b := b) hlt (by simp [chk1, *]))
        go_wp2_with fail
        go_quiet ((first | (go_at_call 85; first | exact quiet_left (cyMinutes_any _ _) | exact quiet_add_left (cyMinutes_any _ _)) | (go_at_call 86; first | exact quiet_left (cyBar_any _ _) | exact quiet_add_left (cyBar_any _ _))))
        go_wp2
        go_ret
        exact ⟨ret_bool HF.out.symm, (by repeat (first | (with_reducible exact Below.refl _ _) | (with_reducible refine below_ov ?_ ?_) | (with_reducible refine Below.setCell ?_ ?_ _) | (with_reducible refine Below.alloc ?_ ?_ _) | (with_reducible refine Below.drew ?_) | (with_reducible refine below_drewN ?_ _) | (refine Below.trans ?_ (Below.mono ‹Below _ _ _› (by first | omega | (simp; done) | (simp; omega)))) | exact Below.refl _ _ | omega | (focus (simp; done)) | (focus (simp; omega))))⟩
      | true =>
        obtain ⟨hc1_0l, hc1_0r⟩ := inB_iff.1 hc1_0
        cases hc1_1 : inB (b k) 0 330 with
        | false =>
          have HF := hide (chkB_no (m := m) (b := b) hlt (by simp [chk1, *]))
          go_wp2_with fail
          go_quiet ((first | (go_at_call 85; first | exact quiet_left (cyMinutes_any _ _) | exact quiet_add_left (cyMinutes_any _ _)) | (go_at_call 86; first | exact quiet_left (cyBar_any _ _) | exact quiet_add_left (cyBar_any _ _))))
          go_wp2
          go_ret
          exact ⟨ret_bool HF.out.symm, (by repeat (first | (with_reducible exact Below.refl _ _) | (with_reducible refine below_ov ?_ ?_) | (with_reducible refine Below.setCell ?_ ?_ _) | (with_reducible refine Below.alloc ?_ ?_ _) | (with_reducible refine Below.drew ?_) | (with_reducible refine below_drewN ?_ _) | (refine Below.trans ?_ (Below.mono ‹Below _ _ _› (by first | omega | (simp; done) | (simp; omega)))) | exact Below.refl _ _ | omega | (focus (simp; done)) | (focus (simp; omega))))⟩
        | true =>
          obtain ⟨hc1_1l, hc1_1r⟩ := inB_iff.1 hc1_1
          rcases Nat.eq_zero_or_pos k with hk0 | hk0
          · have d0 : decide (0 < k) = false := by simp; omega
            have dk : decide (k = 0) = true := by simp; omega
            clear hk0
            have HG : Hid (chk1 m b k = true) := by show chk1 m b k = true; simp only [chk1, *]; simp
            clear dk
            go_wp2_with fail
            go_quiet ((first | (go_at_call 85; first | exact quiet_left (cyMinutes_any _ _) | exact quiet_add_left (cyMinutes_any _ _)) | (go_at_call 86; first | exact quiet_left (cyBar_any _ _) | exact quiet_add_left (cyBar_any _ _))))
            go_wp2
            go_roundw
            case rel => exact ⟨k + 1, by omega, by go_num, upto_snoc hj.out HG.out, (by repeat (first | (with_reducible exact Below.refl _ _) | (with_reducible refine below_ov ?_ ?_) | (with_reducible refine Below.setCell ?_ ?_ _) | (with_reducible refine Below.alloc ?_ ?_ _) | (with_reducible refine Below.drew ?_) | (with_reducible refine below_drewN ?_ _) | (refine Below.trans ?_ (Below.mono ‹Below _ _ _› (by first | omega | (simp; done) | (simp; omega)))) | exact Below.refl _ _ | omega | (focus (simp; done)) | (focus (simp; omega))))⟩
            case measure => simp [intOf]; omega
          · have d0 : decide (0 < k) = true := by simp; omega
            have p0 : wr.cell? ⟨blk, off + (k - 1) * 2, none⟩ = some (.int .i64 (m (k - 1))) := H3.out (k - 1) 0 (by omega) (by omega)
            have p1 : wr.cell? ⟨blk, off + (k - 1) * 2 + 1, none⟩ = some (.int .i64 (b (k - 1))) := H3.out (k - 1) 1 (by omega) (by omega)
            have dk : decide (k = 0) = false := by simp; omega
            cases d1 : decide (m (k - 1) ≥ m k) with
            | true =>
              have d1' : decide (m k ≤ m (k - 1)) = true := d1
              have HF := hide (chkB_no (m := m) (b := b) hlt (by simp [chk1, *]))
              clear dk
              go_wp2_with fail
              go_quiet ((first | (go_at_call 85; first | exact quiet_left (cyMinutes_any _ _) | exact quiet_add_left (cyMinutes_any _ _)) | (go_at_call 86; first | exact quiet_left (cyBar_any _ _) | exact quiet_add_left (cyBar_any _ _))))
              go_wp2
              go_ret
              exact ⟨ret_bool HF.out.symm, (by repeat (first | (with_reducible exact Below.refl _ _) | (with_reducible refine below_ov ?_ ?_) | (with_reducible refine Below.setCell ?_ ?_ _) | (with_reducible refine Below.alloc ?_ ?_ _) | (with_reducible refine Below.drew ?_) | (with_reducible refine below_drewN ?_ _) | (refine Below.trans ?_ (Below.mono ‹Below _ _ _› (by first | omega | (simp; done) | (simp; omega)))) | exact Below.refl _ _ | omega | (focus (simp; done)) | (focus (simp; omega))))⟩
            | false =>
              have d1' : decide (m k ≤ m (k - 1)) = false := d1
              cases d2 : decide (b (k - 1) < b k) with
              | true =>
                have HF := hide (chkB_no (m := m) (b := b) hlt (by simp [chk1, *]))
                clear dk
                go_wp2_with fail
                go_quiet ((first | (go_at_call 85; first | exact quiet_left (cyMinutes_any _ _) | exact quiet_add_left (cyMinutes_any _ _)) | (go_at_call 86; first | exact quiet_left (cyBar_any _ _) | exact quiet_add_left (cyBar_any _ _))))
                go_wp2
                go_ret
                exact ⟨ret_bool HF.out.symm, (by repeat (first | (with_reducible exact Below.refl _ _) | (with_reducible refine below_ov ?_ ?_) | (with_reducible refine Below.setCell ?_ ?_ _) | (with_reducible refine Below.alloc ?_ ?_ _) | (with_reducible refine Below.drew ?_) | (with_reducible refine below_drewN ?_ _) | (refine Below.trans ?_ (Below.mono ‹Below _ _ _› (by first | omega | (simp; done) | (simp; omega)))) | exact Below.refl _ _ | omega | (focus (simp; done)) | (focus (simp; omega))))⟩
              | false =>
                have HG : Hid (chk1 m b k = true) := by show chk1 m b k = true; simp only [chk1, *]; simp
                clear dk
                go_wp2_with fail
                go_quiet ((first | (go_at_call 85; first | exact quiet_left (cyMinutes_any _ _) | exact quiet_add_left (cyMinutes_any _ _)) | (go_at_call 86; first | exact quiet_left (cyBar_any _ _) | exact quiet_add_left (cyBar_any _ _))))
                go_wp2
                go_roundw
                case rel => exact ⟨k + 1, by omega, by go_num, upto_snoc hj.out HG.out, (by repeat (first | (with_reducible exact Below.refl _ _) | (with_reducible refine below_ov ?_ ?_) | (with_reducible refine Below.setCell ?_ ?_ _) | (with_reducible refine Below.alloc ?_ ?_ _) | (with_reducible refine Below.drew ?_) | (with_reducible refine below_drewN ?_ _) | (refine Below.trans ?_ (Below.mono ‹Below _ _ _› (by first | omega | (simp; done) | (simp; omega)))) | exact Below.refl _ _ | omega | (focus (simp; done)) | (focus (simp; omega))))⟩
                case measure => simp [intOf]; omega
    · obtain rfl : k = n := by omega
      have HE : Hid (allB (chk1 m b) k = true) := allB_iff.2 hj.out
      go_wp2_with (go_at_call 71; refine (l1In_any _ _ _ _).mono ?_; rintro e w' ⟨rfl, rfl⟩)
      go_ret
      exact ⟨ret_bool (by rw [chkB, HE.out]; rfl), hb⟩


end Go.Proofs.Ytnfhgnibjebmlaa

/-
  Walks: the greatest rate between neighbouring checks.-/
namespace Go.Proofs.Ytnfhgnibjebmlaa
set_option linter.unusedVariables false
set_option linter.unusedSimpArgs false
open Go.RowKit

theorem chk_facts {m b : Nat → Int} {n : Nat} (h : chkB m b n = true) : (1 ≤ n ∧ n ≤ 20) ∧ ∀ i, i < n → (0 ≤ m i ∧ m i ≤ 600) ∧ (0 ≤ b i ∧ b i ≤ 330) ∧ (0 < i → m (i - 1) < m i ∧ b i ≤ b (i - 1)) := by
  simp only [chkB, Bool.and_eq_true, inB_iff, allB_iff] at h
  obtain ⟨h1, h2⟩ := h
  refine ⟨by omega, fun i hi => ?_⟩
  have h3 := h1 i hi
  simp only [chk1, Bool.and_eq_true, inB_iff, Bool.or_eq_true, decide_eq_true_eq, Bool.not_eq_true', decide_eq_false_iff_not] at h3
  refine ⟨h3.1.1, h3.1.2, fun h0 => ?_⟩
  rcases h3.2 with h4 | h4 <;> omega

/-- The greatest rate of the first k checks' pairs, at least 1. -/
def wrF (v : Int) (m b : Nat → Int) : Nat → Int
  | 0 => 1
  | k + 1 => if k = 0 then 1 else max (wrF v m b k) (upF (lit v (b (k - 1)) - lit v (b k)) (m k - m (k - 1)))
theorem wr_step {v : Int} {m b : Nat → Int} {n k : Nat} (hv : 10 ≤ v) (hv' : v ≤ 3000) (h : chkB m b n = true) (hk : k < n) (h0 : 0 < k) :
    (0 ≤ lit v (b (k - 1)) - lit v (b k) ∧ lit v (b (k - 1)) - lit v (b k) ≤ 95100) ∧ 1 ≤ m k - m (k - 1) ∧ m k - m (k - 1) ≤ 600 := by
  obtain ⟨_, h1⟩ := chk_facts h
  have a1 := h1 k hk
  have a2 := h1 (k - 1) (by omega)
  have a3 := a1.2.2 h0
  have l1 := lit_bd (v := v) (by omega) hv' a1.2.1.1 a1.2.1.2
  have l2 := lit_bd (v := v) (by omega) hv' a2.2.1.1 a2.2.1.2
  have l3 := lit_mono (v := v) (by omega) a3.2
  omega
theorem wrF_bd {v : Int} {m b : Nat → Int} {n : Nat} (hv : 10 ≤ v) (hv' : v ≤ 3000) (h : chkB m b n = true) : ∀ k, k ≤ n → 1 ≤ wrF v m b k ∧ wrF v m b k ≤ 95100
  | 0, _ => by simp [wrF]
  | k + 1, hk => by
    unfold wrF
    split
    · omega
    · rename_i h0
      have h1 := wrF_bd hv hv' h k (by omega)
      have h2 := wr_step hv hv' h (k := k) (by omega) (by omega)
      have h3 := upF_bd h2.1.1 h2.1.2 h2.2.1
      omega
theorem wrF_one (v : Int) (m b : Nat → Int) : wrF v m b 1 = 1 := by simp [wrF]
theorem wrF_succ {v : Int} {m b : Nat → Int} {k : Nat} (h : 0 < k) : wrF v m b (k + 1) = max (wrF v m b k) (upF (lit v (b (k - 1)) - lit v (b k)) (m k - m (k - 1))) := by
  rw [wrF, if_neg (by omega)]

def wrOk (x : Int) (m b : Nat → Int) (n : Nat) : Bool := decide (2 ≤ n) && inB (wrF x m b n) 1 200
def wrN (x : Int) (m b : Nat → Int) (n : Nat) : Int := if wrOk x m b n = true then wrF x m b n else 0
set_option maxRecDepth 100000 in
set_option maxHeartbeats 1600000 in
theorem worstRate_any (x : Int) (m b : Nat → Int) (n lo hi : Nat) (v : Value) (w : World) (hv : Sl w lo hi 2 v n (iiC m b)) (hhi : hi ≤ w.heap.size) (hx : 10 ≤ x) (hx' : x ≤ 3000) (hc : chkB m b n = true) :
    Calls Try.prog 88 #[.int .i64 x, v] w fun e w' => e = .returned (.tuple #[.int .i64 (wrN x m b n), .bool (wrOk x m b n)]) ∧ Below w.heap.size w w' := by
  obtain ⟨A, cap, rfl, hcap, hA⟩ := hv.open_
  clear hv
  have HC := hide hc
  have hn := (chk_facts hc).1
  clear hc
  go_enter Try.func88, Try.ntmps88
  go_wp2_with fail
  go_loopw [6, 7] (fun wst i wr => ∃ k : Nat, 1 ≤ k ∧ k ≤ n ∧ i = .int .i64 k ∧ wst = .int .i64 (wrF x m b k) ∧ Below w.heap.size w wr) (fun _ i _ => n - (intOf i).toNat)
  case atStart => exact ⟨1, by omega, by omega, rfl, by rw [wrF_one], Below.refl _ _⟩
  case round =>
    obtain ⟨k, hk1, hk, rfl, rfl, hb⟩ := hrel
    have hzr := hb.size
    by_cases hkn : k < n
    · obtain ⟨blk, off, rfl, h1, h2, h3⟩ := (hA.below hb (by omega)) (by omega)
      have c0 : wr.cell? ⟨blk, off + k * 2, none⟩ = some (.int .i64 (m k)) := h3 k 0 hkn (by omega)
      have c1 : wr.cell? ⟨blk, off + k * 2 + 1, none⟩ = some (.int .i64 (b k)) := h3 k 1 hkn (by omega)
      have p0 : wr.cell? ⟨blk, off + (k - 1) * 2, none⟩ = some (.int .i64 (m (k - 1))) := h3 (k - 1) 0 (by omega) (by omega)
      have p1 : wr.cell? ⟨blk, off + (k - 1) * 2 + 1, none⟩ = some (.int .i64 (b (k - 1))) := h3 (k - 1) 1 (by omega) (by omega)
      have g1 : blk < wr.heap.size := by omega
      clear h3 hA
      obtain ⟨q1, q2⟩ := wr_step hx hx' HC.out hkn (by omega)
      have b1 := ((chk_facts HC.out).2 k hkn).2.1
      have b2 := ((chk_facts HC.out).2 (k - 1) (by omega)).2.1
      have b3 := ((chk_facts HC.out).2 k hkn).1
      have b4 := ((chk_facts HC.out).2 (k - 1) (by omega)).1
      go_wp2_with fail
      go_quiet ((go_at_call 93; first | exact quiet_left (litresAt_any _ _ _ (by omega) (by omega) (by omega) (by omega)) | exact quiet_add_left (litresAt_any _ _ _ (by omega) (by omega) (by omega) (by omega))))
      go_wp2_with fail
      go_quiet ((go_at_call 94; first | exact quiet_left (upTo_any _ _ _ (by omega) (by omega) (by omega) (by omega)) | exact quiet_add_left (upTo_any _ _ _ (by omega) (by omega) (by omega) (by omega))))
      go_wp2_with fail
      go_roundw
      case rel => exact ⟨k + 1, by omega, by omega, by go_num, by rw [wrF_succ (by omega)]; congr 1; split <;> omega, (by repeat (first | (with_reducible exact Below.refl _ _) | (with_reducible refine below_ov ?_ ?_) | (with_reducible refine Below.setCell ?_ ?_ _) | (with_reducible refine Below.alloc ?_ ?_ _) | (with_reducible refine Below.drew ?_) | (with_reducible refine below_drewN ?_ _) | (refine Below.trans ?_ (Below.mono ‹Below _ _ _› (by first | omega | (simp; done) | (simp; omega)))) | exact Below.refl _ _ | omega | (focus (simp; done)) | (focus (simp; omega))))⟩
      case measure => simp [intOf]; omega
    · obtain rfl : k = n := by omega
      cases hi2 : inB (wrF x m b k) 1 200 with
      | false =>
        have HF : Hid (wrOk x m b k = false) := by show wrOk x m b k = false; simp [wrOk, hi2]
        rcases Nat.lt_or_ge k 2 with h2 | h2
        · have d2 : decide ((k : Int) < 2) = true := by simp; omega
          go_wp2_with (go_at_call 95; refine (isRate_any _ _).mono ?_; rintro e w' ⟨rfl, rfl⟩)
          go_ret2
          exact ⟨ret_ib (by rw [wrN, HF.out]; rfl) HF.out.symm, hb⟩
        · have d2 : decide ((k : Int) < 2) = false := by simp; omega
          go_wp2_with (go_at_call 95; refine (isRate_any _ _).mono ?_; rintro e w' ⟨rfl, rfl⟩)
          go_ret2
          exact ⟨ret_ib (by rw [wrN, HF.out]; rfl) HF.out.symm, hb⟩
      | true =>
        rcases Nat.lt_or_ge k 2 with h2 | h2
        · have d2 : decide ((k : Int) < 2) = true := by simp; omega
          have HF : Hid (wrOk x m b k = false) := by show wrOk x m b k = false; simp [wrOk]; omega
          go_wp2_with (go_at_call 95; refine (isRate_any _ _).mono ?_; rintro e w' ⟨rfl, rfl⟩)
          go_ret2
          exact ⟨ret_ib (by rw [wrN, HF.out]; rfl) HF.out.symm, hb⟩
        · have d2 : decide ((k : Int) < 2) = false := by simp; omega
          have HF : Hid (wrOk x m b k = true) := by show wrOk x m b k = true; simp [wrOk, hi2]; omega
          go_wp2_with (go_at_call 95; refine (isRate_any _ _).mono ?_; rintro e w' ⟨rfl, rfl⟩)
          go_ret2
          exact ⟨ret_ib (by rw [wrN, HF.out]; rfl) HF.out.symm, hb⟩
set_option maxRecDepth 100000 in
set_option maxHeartbeats 1600000 in
theorem cyWorst_any (x : Int) (m b : Nat → Int) (n lo hi : Nat) (v : Value) (w : World) (hv : Sl w lo hi 2 v n (iiC m b)) (hhi : hi ≤ w.heap.size) (hx : 10 ≤ x) (hx' : x ≤ 3000) (hc : chkB m b n = true) :
    Calls Try.prog 91 #[.int .i64 x, v] w fun e w' => e = .returned (.int .i64 (wrF x m b n)) ∧ Below w.heap.size w w' := by
  obtain ⟨A, cap, rfl, hcap, hA⟩ := hv.open_
  clear hv
  have HC := hide hc
  have hn := (chk_facts hc).1
  clear hc
  go_enter Try.func91, Try.ntmps91
  go_wp2_with fail
  go_loopw [5, 6] (fun wst i wr => ∃ k : Nat, 1 ≤ k ∧ k ≤ n ∧ i = .int .i64 k ∧ wst = .int .i64 (wrF x m b k) ∧ Below w.heap.size w wr) (fun _ i _ => n - (intOf i).toNat)
  case atStart => exact ⟨1, by omega, by omega, rfl, by rw [wrF_one], Below.refl _ _⟩
  case round =>
    obtain ⟨k, hk1, hk, rfl, rfl, hb⟩ := hrel
    have hzr := hb.size
    by_cases hkn : k < n
    · obtain ⟨blk, off, rfl, h1, h2, h3⟩ := (hA.below hb (by omega)) (by omega)
      have c0 : wr.cell? ⟨blk, off + k * 2, none⟩ = some (.int .i64 (m k)) := h3 k 0 hkn (by omega)
      have c1 : wr.cell? ⟨blk, off + k * 2 + 1, none⟩ = some (.int .i64 (b k)) := h3 k 1 hkn (by omega)
      have p0 : wr.cell? ⟨blk, off + (k - 1) * 2, none⟩ = some (.int .i64 (m (k - 1))) := h3 (k - 1) 0 (by omega) (by omega)
      have p1 : wr.cell? ⟨blk, off + (k - 1) * 2 + 1, none⟩ = some (.int .i64 (b (k - 1))) := h3 (k - 1) 1 (by omega) (by omega)
      have g1 : blk < wr.heap.size := by omega
      clear h3 hA
      obtain ⟨q1, q2⟩ := wr_step hx hx' HC.out hkn (by omega)
      have b1 := ((chk_facts HC.out).2 k hkn).2.1
      have b2 := ((chk_facts HC.out).2 (k - 1) (by omega)).2.1
      have b3 := ((chk_facts HC.out).2 k hkn).1
      have b4 := ((chk_facts HC.out).2 (k - 1) (by omega)).1
      have hd0 : (m k - m (k - 1) == 0) = false := by simp; omega
      go_wp2_with fail
      go_quiet ((go_at_call 96; first | exact quiet_left (cyLitres_any _ _ _ (by omega) (by omega) (by omega) (by omega)) | exact quiet_add_left (cyLitres_any _ _ _ (by omega) (by omega) (by omega) (by omega))))
      go_wp2_with fail
      go_quiet (fail)
      go_wp2_with (go_at_call 82; refine (l1Most_any _ _ _).mono ?_; rintro e w' ⟨rfl, rfl⟩)
      go_roundw
      case rel => exact ⟨k + 1, by omega, by omega, by go_num, by rw [wrF_succ (by omega)]; rfl, (by repeat (first | (with_reducible exact Below.refl _ _) | (with_reducible refine below_ov ?_ ?_) | (with_reducible refine Below.setCell ?_ ?_ _) | (with_reducible refine Below.alloc ?_ ?_ _) | (with_reducible refine Below.drew ?_) | (with_reducible refine below_drewN ?_ _) | (refine Below.trans ?_ (Below.mono ‹Below _ _ _› (by first | omega | (simp; done) | (simp; omega)))) | exact Below.refl _ _ | omega | (focus (simp; done)) | (focus (simp; omega))))⟩
      case measure => simp [intOf]; omega
    · obtain rfl : k = n := by omega
      go_wp2_with fail
      go_ret
      exact ⟨rfl, hb⟩

end Go.Proofs.Ytnfhgnibjebmlaa

/-
  Walks: names.-/
namespace Go.Proofs.Ytnfhgnibjebmlaa
set_option linter.unusedVariables false
set_option linter.unusedSimpArgs false
open Go.RowKit

def byteAt (s : ByteArray) (i : Nat) : Int := if h : i < s.size then (s[i].toNat : Int) else 0
def lowB (c : Int) : Bool := decide (97 ≤ c) && decide (c ≤ 122)
def digB (c : Int) : Bool := decide (48 ≤ c) && decide (c ≤ 57)
def nm1 (s : ByteArray) (i : Nat) : Bool := lowB (byteAt s i) || (digB (byteAt s i) && !decide (i = 0))
def nameB (s : ByteArray) : Bool := allB (nm1 s) s.size && inB s.size 1 6
theorem byteAt_eq {s : ByteArray} {i : Nat} (h : i < s.size) : (s[i].toNat : Int) = byteAt s i := by simp [byteAt, h]
theorem nameB_no {s : ByteArray} {k : Nat} (hk : k < s.size) (h : nm1 s k = false) : nameB s = false := by rw [nameB, allB_false hk h]; rfl

/-- Where a byte lies among digits and letters. -/
theorem byte_cases (c : Int) : (c < 48) ∨ (48 ≤ c ∧ c ≤ 57) ∨ (57 < c ∧ c < 97) ∨ (97 ≤ c ∧ c ≤ 122) ∨ 122 < c := by omega
theorem nm1_no1 {s : ByteArray} {i : Nat} (h : byteAt s i < 48) : nm1 s i = false := by simp [nm1, lowB, digB]; omega
theorem nm1_no2 {s : ByteArray} {i : Nat} (h : 57 < byteAt s i) (h' : byteAt s i < 97) : nm1 s i = false := by simp [nm1, lowB, digB]; omega
theorem nm1_no3 {s : ByteArray} {i : Nat} (h : 122 < byteAt s i) : nm1 s i = false := by simp [nm1, lowB, digB]; omega
theorem nm1_low {s : ByteArray} {i : Nat} (h : 97 ≤ byteAt s i) (h' : byteAt s i ≤ 122) : nm1 s i = true := by simp [nm1, lowB, digB]; omega
theorem nm1_dig {s : ByteArray} {i : Nat} (h : 48 ≤ byteAt s i) (h' : byteAt s i ≤ 57) (h0 : 0 < i) : nm1 s i = true := by simp [nm1, lowB, digB]; omega
theorem nm1_dig0 {s : ByteArray} {i : Nat} (h : 48 ≤ byteAt s i) (h' : byteAt s i ≤ 57) (h0 : i = 0) : nm1 s i = false := by subst h0; simp [nm1, lowB, digB]; omega

set_option maxRecDepth 100000 in
set_option maxHeartbeats 1600000 in
theorem isName_any (s : ByteArray) (w : World) (hs : s.size ≤ maxLen) :
    Calls Try.prog 64 #[.string s] w fun e w' => e = .returned (.bool (nameB s)) ∧ Drew w w' := by
  unfold maxLen at hs
  go_enter Try.func64, Try.ntmps64
  go_wp2_with fail
  go_loopw [8] (fun i wr => ∃ k : Nat, k ≤ s.size ∧ i = .int .i64 k ∧ Hid (∀ j, j < k → nm1 s j = true) ∧ Drew w wr) (fun i _ => s.size - (intOf i).toNat)
  case atStart => exact ⟨0, by omega, rfl, fun j hj => by omega, ⟨0, rfl⟩⟩
  case round =>
    obtain ⟨k, hk, rfl, hj, hw⟩ := hrel
    by_cases hkn : k < s.size
    · have hb := byteAt_eq hkn
      rcases byte_cases (byteAt s k) with h | h | h | h | h
      · have HF := hide (nameB_no hkn (nm1_no1 h))
        have a1 : decide (97 ≤ (s[k].toNat : Int)) = false := by simp; omega
        have a2 : decide (48 ≤ (s[k].toNat : Int)) = false := by simp; omega
        clear hb h
        go_wp2_with fail
        go_quiet (fail)
        go_wp2_with fail
        go_ret
        exact ⟨ret_bool HF.out.symm, (by repeat (first | exact Drew.refl _ | assumption | (refine Drew.drewN ?_ _) | (refine Drew.trans ?_ (by assumption))))⟩
      · rcases Nat.eq_zero_or_pos k with hk0 | h0
        · have HF := hide (nameB_no hkn (nm1_dig0 h.1 h.2 hk0))
          have d0 : ((k : Int) == 0) = true := by simp; omega
          have a1 : decide (97 ≤ (s[k].toNat : Int)) = false := by simp; omega
          have a2 : decide (48 ≤ (s[k].toNat : Int)) = true := by simp; omega
          have b2 : decide ((s[k].toNat : Int) ≤ 57) = true := by simp; omega
          clear hb h hk0
          go_wp2_with fail
          go_quiet (fail)
          go_wp2_with fail
          go_ret
          exact ⟨ret_bool HF.out.symm, (by repeat (first | exact Drew.refl _ | assumption | (refine Drew.drewN ?_ _) | (refine Drew.trans ?_ (by assumption))))⟩
        · have HG := hide (nm1_dig h.1 h.2 h0)
          have a1 : decide (97 ≤ (s[k].toNat : Int)) = false := by simp; omega
          have a2 : decide (48 ≤ (s[k].toNat : Int)) = true := by simp; omega
          have b2 : decide ((s[k].toNat : Int) ≤ 57) = true := by simp; omega
          have d0 : ((k : Int) == 0) = false := by simp; omega
          clear hb h
          go_wp2_with fail
          go_quiet (fail)
          go_wp2_with fail
          go_roundw
          case rel => exact ⟨k + 1, by omega, by go_num, upto_snoc hj.out HG.out, (by repeat (first | exact Drew.refl _ | assumption | (refine Drew.drewN ?_ _) | (refine Drew.trans ?_ (by assumption))))⟩
          case measure => simp [intOf]; omega
      · have HF := hide (nameB_no hkn (nm1_no2 h.1 h.2))
        have a1 : decide (97 ≤ (s[k].toNat : Int)) = false := by simp; omega
        have a2 : decide (48 ≤ (s[k].toNat : Int)) = true := by simp; omega
        have b2 : decide ((s[k].toNat : Int) ≤ 57) = false := by simp; omega
        clear hb h
        go_wp2_with fail
        go_quiet (fail)
        go_wp2_with fail
        go_ret
        exact ⟨ret_bool HF.out.symm, (by repeat (first | exact Drew.refl _ | assumption | (refine Drew.drewN ?_ _) | (refine Drew.trans ?_ (by assumption))))⟩
      · have HG := hide (nm1_low h.1 h.2)
        have a1 : decide (97 ≤ (s[k].toNat : Int)) = true := by simp; omega
        have b1 : decide ((s[k].toNat : Int) ≤ 122) = true := by simp; omega
        have a2 : decide (48 ≤ (s[k].toNat : Int)) = true := by simp; omega
        have b2 : decide ((s[k].toNat : Int) ≤ 57) = false := by simp; omega
        clear hb h
        go_wp2_with fail
        go_quiet (fail)
        go_wp2_with fail
        go_roundw
        case rel => exact ⟨k + 1, by omega, by go_num, upto_snoc hj.out HG.out, (by repeat (first | exact Drew.refl _ | assumption | (refine Drew.drewN ?_ _) | (refine Drew.trans ?_ (by assumption))))⟩
        case measure => simp [intOf]; omega
      · have HF := hide (nameB_no hkn (nm1_no3 h))
        have a1 : decide (97 ≤ (s[k].toNat : Int)) = true := by simp; omega
        have b1 : decide ((s[k].toNat : Int) ≤ 122) = false := by simp; omega
        have a2 : decide (48 ≤ (s[k].toNat : Int)) = true := by simp; omega
        have b2 : decide ((s[k].toNat : Int) ≤ 57) = false := by simp; omega
        clear hb h
        go_wp2_with fail
        go_quiet (fail)
        go_wp2_with fail
        go_ret
        exact ⟨ret_bool HF.out.symm, (by repeat (first | exact Drew.refl _ | assumption | (refine Drew.drewN ?_ _) | (refine Drew.trans ?_ (by assumption))))⟩
    · obtain rfl : k = s.size := by omega
      have HE : Hid (allB (nm1 s) s.size = true) := allB_iff.2 hj.out
      go_wp2_with (go_at_call 49; refine (inside_any _ _ _ _).mono ?_; rintro e w' ⟨rfl, rfl⟩)
      go_ret
      exact ⟨ret_bool (by rw [nameB, HE.out]; rfl), (by repeat (first | exact Drew.refl _ | assumption | (refine Drew.drewN ?_ _) | (refine Drew.trans ?_ (by assumption))))⟩
set_option maxRecDepth 100000 in
set_option maxHeartbeats 1600000 in
theorem apName_any (s : ByteArray) (w : World) (hs : s.size ≤ maxLen) :
    Calls Try.prog 69 #[.string s] w fun e w' => e = .returned (.bool (nameB s)) ∧ Drew w w' := by
  unfold maxLen at hs
  go_enter Try.func69, Try.ntmps69
  go_wp2_with fail
  go_loopw [3] (fun i wr => ∃ k : Nat, k ≤ s.size ∧ i = .int .i64 k ∧ Hid (∀ j, j < k → nm1 s j = true) ∧ Drew w wr) (fun i _ => s.size - (intOf i).toNat)
  case atStart => exact ⟨0, by omega, rfl, fun j hj => by omega, ⟨0, rfl⟩⟩
  case round =>
    obtain ⟨k, hk, rfl, hj, hw⟩ := hrel
    by_cases hkn : k < s.size
    · have hb := byteAt_eq hkn
      rcases byte_cases (byteAt s k) with h | h | h | h | h
      · have HF := hide (nameB_no hkn (nm1_no1 h))
        have a1 : decide (97 ≤ (s[k].toNat : Int)) = false := by simp; omega
        have a2 : decide (48 ≤ (s[k].toNat : Int)) = false := by simp; omega
        clear hb h
        go_wp2_with fail
        go_ret
        exact ⟨ret_bool HF.out.symm, (by repeat (first | exact Drew.refl _ | assumption | (refine Drew.drewN ?_ _) | (refine Drew.trans ?_ (by assumption))))⟩
      · rcases Nat.eq_zero_or_pos k with hk0 | h0
        · have HF := hide (nameB_no hkn (nm1_dig0 h.1 h.2 hk0))
          have d0 : ((k : Int) == 0) = true := by simp; omega
          have a1 : decide (97 ≤ (s[k].toNat : Int)) = false := by simp; omega
          have a2 : decide (48 ≤ (s[k].toNat : Int)) = true := by simp; omega
          have b2 : decide ((s[k].toNat : Int) ≤ 57) = true := by simp; omega
          clear hb h hk0
          go_wp2_with fail
          go_ret
          exact ⟨ret_bool HF.out.symm, (by repeat (first | exact Drew.refl _ | assumption | (refine Drew.drewN ?_ _) | (refine Drew.trans ?_ (by assumption))))⟩
        · have HG := hide (nm1_dig h.1 h.2 h0)
          have a1 : decide (97 ≤ (s[k].toNat : Int)) = false := by simp; omega
          have a2 : decide (48 ≤ (s[k].toNat : Int)) = true := by simp; omega
          have b2 : decide ((s[k].toNat : Int) ≤ 57) = true := by simp; omega
          have d0 : ((k : Int) == 0) = false := by simp; omega
          clear hb h
          go_wp2_with fail
          go_roundw
          case rel => exact ⟨k + 1, by omega, by go_num, upto_snoc hj.out HG.out, (by repeat (first | exact Drew.refl _ | assumption | (refine Drew.drewN ?_ _) | (refine Drew.trans ?_ (by assumption))))⟩
          case measure => simp [intOf]; omega
      · have HF := hide (nameB_no hkn (nm1_no2 h.1 h.2))
        have a1 : decide (97 ≤ (s[k].toNat : Int)) = false := by simp; omega
        have a2 : decide (48 ≤ (s[k].toNat : Int)) = true := by simp; omega
        have b2 : decide ((s[k].toNat : Int) ≤ 57) = false := by simp; omega
        clear hb h
        go_wp2_with fail
        go_ret
        exact ⟨ret_bool HF.out.symm, (by repeat (first | exact Drew.refl _ | assumption | (refine Drew.drewN ?_ _) | (refine Drew.trans ?_ (by assumption))))⟩
      · have HG := hide (nm1_low h.1 h.2)
        have a1 : decide (97 ≤ (s[k].toNat : Int)) = true := by simp; omega
        have b1 : decide ((s[k].toNat : Int) ≤ 122) = true := by simp; omega
        have a2 : decide (48 ≤ (s[k].toNat : Int)) = true := by simp; omega
        have b2 : decide ((s[k].toNat : Int) ≤ 57) = false := by simp; omega
        clear hb h
        go_wp2_with fail
        go_roundw
        case rel => exact ⟨k + 1, by omega, by go_num, upto_snoc hj.out HG.out, (by repeat (first | exact Drew.refl _ | assumption | (refine Drew.drewN ?_ _) | (refine Drew.trans ?_ (by assumption))))⟩
        case measure => simp [intOf]; omega
      · have HF := hide (nameB_no hkn (nm1_no3 h))
        have a1 : decide (97 ≤ (s[k].toNat : Int)) = true := by simp; omega
        have b1 : decide ((s[k].toNat : Int) ≤ 122) = false := by simp; omega
        have a2 : decide (48 ≤ (s[k].toNat : Int)) = true := by simp; omega
        have b2 : decide ((s[k].toNat : Int) ≤ 57) = false := by simp; omega
        clear hb h
        go_wp2_with fail
        go_ret
        exact ⟨ret_bool HF.out.symm, (by repeat (first | exact Drew.refl _ | assumption | (refine Drew.drewN ?_ _) | (refine Drew.trans ?_ (by assumption))))⟩
    · obtain rfl : k = s.size := by omega
      have HE : Hid (allB (nm1 s) s.size = true) := allB_iff.2 hj.out
      go_wp2_with (go_at_call 71; refine (l1In_any _ _ _ _).mono ?_; rintro e w' ⟨rfl, rfl⟩)
      go_ret
      exact ⟨ret_bool (by rw [nameB, HE.out]; rfl), (by repeat (first | exact Drew.refl _ | assumption | (refine Drew.drewN ?_ _) | (refine Drew.trans ?_ (by assumption))))⟩

end Go.Proofs.Ytnfhgnibjebmlaa

/-
  Plain laws on teams: the rate, the minute of turning, the state.-/
namespace Go.Proofs.Ytnfhgnibjebmlaa
set_option linter.unusedVariables false
set_option linter.unusedSimpArgs false
open Go.RowKit

/-- A team: its name, volume, way, its checks. -/
structure Tm where
  s : ByteArray
  v : Int
  y : Int
  n : Nat
  m : Nat → Int
  b : Nat → Int
def tmB (T : Tm) : Bool := nameB T.s && inB T.v 10 3000 && inB T.y 0 300 && chkB T.m T.b T.n
def Tm.lm (T : Tm) : Int := T.m (T.n - 1)
def Tm.lb (T : Tm) : Int := T.b (T.n - 1)
def tmR (T : Tm) : Int := if T.n = 1 then 60 else min 200 (max 60 (wrF T.v T.m T.b T.n))
theorem tm_facts {T : Tm} (h : tmB T = true) : nameB T.s = true ∧ (10 ≤ T.v ∧ T.v ≤ 3000) ∧ (0 ≤ T.y ∧ T.y ≤ 300) ∧ (1 ≤ T.n ∧ T.n ≤ 20) ∧ (0 ≤ T.lm ∧ T.lm ≤ 600) ∧ 0 ≤ T.lb ∧ T.lb ≤ 330 := by
  simp only [tmB, Bool.and_eq_true, inB_iff] at h
  obtain ⟨⟨⟨h1, h2⟩, h3⟩, h4⟩ := h
  obtain ⟨h5, h6⟩ := chk_facts h4
  have h7 := h6 (T.n - 1) (by omega)
  exact ⟨h1, h2, h3, h5, h7.1, h7.2.1⟩
theorem tm_chk {T : Tm} (h : tmB T = true) : chkB T.m T.b T.n = true := by
  simp only [tmB, Bool.and_eq_true] at h
  exact h.2
theorem tmR_bd {T : Tm} : 60 ≤ tmR T ∧ tmR T ≤ 200 := by unfold tmR; split <;> omega
/-- The program's way to the rate. -/
theorem tmR_imp {T : Tm} (h : tmB T = true) : (if wrOk T.v T.m T.b T.n = false ∧ 1 < T.n then 200 else max 60 (wrN T.v T.m T.b T.n)) = tmR T := by
  obtain ⟨_, h2, _, h4, _⟩ := tm_facts h
  have h5 := wrF_bd h2.1 h2.2 (tm_chk h) T.n (Nat.le_refl _)
  unfold tmR wrN
  cases hw : wrOk T.v T.m T.b T.n with
  | true =>
    simp only [wrOk, Bool.and_eq_true, decide_eq_true_eq, inB_iff] at hw
    rw [if_neg (by simp), if_pos rfl, if_neg (by omega)]
    omega
  | false =>
    by_cases h1 : T.n = 1
    · rw [if_neg (by omega), if_pos h1, if_neg (by simp)]; rfl
    · rw [if_pos ⟨rfl, by omega⟩, if_neg h1]
      simp only [wrOk, Bool.and_eq_false_iff, decide_eq_false_iff_not, inB_no] at hw
      omega

def tmRateN (T : Tm) : Int := if tmB T = true then tmR T else 0
def preOk (T : Tm) (k : Int) : Bool := tmB T && inB k T.lm 600 && aftOk T.v T.lb (tmR T * (k - T.lm))
def preN (T : Tm) (k : Int) : Int := if (tmB T && inB k T.lm 600) = true then aftN T.v T.lb (tmR T * (k - T.lm)) else 0
theorem aftN_no {v b u : Int} (h : aftOk v b u = false) : aftN v b u = 0 := by
  simp only [aftOk, decide_eq_false_iff_not] at h
  rw [aftN, if_neg h]
/-- The minute at which it must turn. -/
def tmT (T : Tm) : Int := timeF T.v T.lb (tmR T) T.y 50
def tmTOk (T : Tm) : Bool := decide (0 ≤ tmT T)
def tmTN (T : Tm) : Int := if tmT T < 0 then 0 else T.lm + tmT T
def turnOk (T : Tm) : Bool := tmB T && tmTOk T
def turnNN (T : Tm) : Int := if tmB T = true then tmTN T else 0
theorem tmT_bd (T : Tm) : -1 ≤ tmT T ∧ tmT T ≤ 600 := timeF_bd _ _ _ _ _
theorem tmTN_bd {T : Tm} (h : tmB T = true) : 0 ≤ tmTN T ∧ tmTN T ≤ 1200 := by
  have h1 := tmT_bd T
  have h2 := (tm_facts h).2.2.2.2.1
  unfold tmTN
  split <;> omega

end Go.Proofs.Ytnfhgnibjebmlaa
