/-
  Texts of this proof, one behind the other (part 6).
-/
import Derived.Test.YtnfhgnibjebmlaaQ5
import Derived.Deep.LoopGhost
/-
  Walks: boards: validity.-/
namespace Go.Proofs.Ytnfhgnibjebmlaa
set_option linter.unusedVariables false
set_option linter.unusedSimpArgs false
open Go.RowKit

/-- The cells of a board. -/
def tC (T : Nat → Tm) (ck : Nat → Value) : Nat → Nat → Value := fun i j => if j = 0 then .string (T i).s else if j = 1 then .int .i64 (T i).v else if j = 2 then .int .i64 (T i).y else ck i
/-- A board that is read. -/
def SlT (w : World) (lo hi : Nat) (v : Value) (n : Nat) (T : Nat → Tm) : Prop := ∃ ck, Sl w lo hi 4 v n (tC T ck) ∧ ∀ i, i < n → Sl w lo hi 2 (ck i) (T i).n (iiC (T i).m (T i).b)
section
variable {w w' : World} {lo hi n cap : Nat} {v : Value} {A : Option Addr} {T : Nat → Tm}
theorem SlT.below {B : Nat} (h : SlT w lo hi v n T) (hb : Below B w w') (hB : hi ≤ B) : SlT w' lo hi v n T := by
  obtain ⟨ck, h1, h2⟩ := h
  exact ⟨ck, h1.below hb hB, fun i hi => (h2 i hi).below hb hB⟩
theorem SlT.open_ (h : SlT w lo hi v n T) : ∃ A cap, v = .slice A n cap ∧ n ≤ cap := by
  obtain ⟨ck, ⟨A, cap, h1, h2, _⟩, _⟩ := h
  exact ⟨A, cap, h1, h2⟩
/-- Each team at its place. -/
theorem SlT.at_ (h : SlT w lo hi (.slice A n cap) n T) (hhi : hi ≤ w.heap.size) (hn : 0 < n) : ∃ (blk off : Nat) (ck : Nat → Value), A = some ⟨blk, off, none⟩ ∧ lo ≤ blk ∧ blk < hi ∧ ∀ k, k < n → TmAt w blk (off + k * 4) (T k) (ck k) lo hi := by
  obtain ⟨ck, h1, h2⟩ := h
  obtain ⟨A', cap', he, _, hA⟩ := h1.open_
  injection he with e1 e2 e3
  subst e1
  obtain ⟨blk, off, rfl, g1, g2, g3⟩ := hA hn
  refine ⟨blk, off, ck, rfl, g1, g2, fun k hk => ⟨by omega, g3 k 0 hk (by omega), g3 k 1 hk (by omega), g3 k 2 hk (by omega), g3 k 3 hk (by omega), h2 k hk, hhi⟩⟩
end
def bd1 (T : Nat → Tm) (i : Nat) : Bool := tmB (T i) && (decide (i = 0) || ltS (T (i - 1)).s (T i).s)
def bdB (T : Nat → Tm) (n : Nat) : Bool := allB (bd1 T) n && decide ((n : Int) ≤ 6)
theorem bd_facts {T : Nat → Tm} {n : Nat} (h : bdB T n = true) : n ≤ 6 ∧ ∀ i, i < n → tmB (T i) = true ∧ (0 < i → ltS (T (i - 1)).s (T i).s = true) := by
  simp only [bdB, Bool.and_eq_true, allB_iff, decide_eq_true_eq] at h
  refine ⟨by omega, fun i hi => ?_⟩
  have h1 := h.1 i hi
  simp only [bd1, Bool.and_eq_true, Bool.or_eq_true, decide_eq_true_eq] at h1
  refine ⟨h1.1, fun h0 => ?_⟩
  rcases h1.2 with h2 | h2
  · omega
  · exact h2
def tfits (T : Nat → Tm) (n : Nat) : Prop := n ≤ 1048576 ∧ ∀ i, i < n → (T i).fits

set_option maxRecDepth 100000 in
set_option maxHeartbeats 1600000 in
theorem isBoard_any (T : Nat → Tm) (n lo hi : Nat) (v : Value) (w : World) (hv : SlT w lo hi v n T) (hhi : hi ≤ w.heap.size) (hf : tfits T n) :
    Calls Try.prog 32 #[v] w fun e w' => e = .returned (.bool (bdB T n)) ∧ Below w.heap.size w w' := by
  obtain ⟨A, cap, rfl, hcap⟩ := hv.open_
  obtain ⟨hn, hfit⟩ := hf
  go_enter Try.func32, Try.ntmps32
  go_wp2_with fail
  go_loopw [6] (fun i wr => ∃ k : Nat, k ≤ n ∧ i = .int .i64 k ∧ Hid (∀ j, j < k → bd1 T j = true) ∧ Below w.heap.size w wr) (fun i _ => n - (intOf i).toNat)
  case atStart => exact ⟨0, by omega, rfl, fun j hj => by omega, Below.refl _ _⟩
  case round =>
    obtain ⟨k, hk, rfl, hj, hb⟩ := hrel
    have hzr := hb.size
    by_cases hkn : k < n
    · obtain ⟨blk, off, ck, rfl, h1, h2, h3⟩ := (hv.below hb hhi).at_ (by omega) (by omega)
      have t0 := hide (h3 k hkn)
      have q0 := (h3 k hkn).c0
      have q1 := (h3 (k - 1) (by omega)).c0
      have l0 : blk < wr.heap.size := by omega
      clear h3
      cases e1 : tmB (T k) with
      | false =>
        have HF : Hid (bdB T n = false) := by show _ = _; rw [bdB, allB_false hkn (by simp [bd1, e1])]; rfl
        go_wp2_with fail
        (refine wp_region_below_lit (by kernel_rfl) (by kernel_rfl) ?_; (repeat (first | go_big_quiet_step ((go_at_call 33; exact quiet_ov (isTeam_any (T k) blk (off + k * 4) lo hi _ _ (t0.out.below (B := wr.heap.size) (by repeat (first | (with_reducible exact Below.refl _ _) | (with_reducible refine below_ov ?_ ?_) | (with_reducible refine Below.setCell ?_ ?_ _) | (with_reducible refine Below.alloc ?_ ?_ _) | (with_reducible refine Below.drew ?_) | (with_reducible refine below_drewN ?_ _) | (refine Below.trans ?_ (Below.mono ‹Below _ _ _› (by first | omega | (simp; done) | (simp; omega)))) | exact Below.refl _ _ | omega | (focus (simp; done)) | (focus (simp; omega)))) (Nat.le_refl _)) (hfit k hkn)))) | quiet_step ((go_at_call 33; exact quiet_ov (isTeam_any (T k) blk (off + k * 4) lo hi _ _ (t0.out.below (B := wr.heap.size) (by repeat (first | (with_reducible exact Below.refl _ _) | (with_reducible refine below_ov ?_ ?_) | (with_reducible refine Below.setCell ?_ ?_ _) | (with_reducible refine Below.alloc ?_ ?_ _) | (with_reducible refine Below.drew ?_) | (with_reducible refine below_drewN ?_ _) | (refine Below.trans ?_ (Below.mono ‹Below _ _ _› (by first | omega | (simp; done) | (simp; omega)))) | exact Below.refl _ _ | omega | (focus (simp; done)) | (focus (simp; omega)))) (Nat.le_refl _)) (hfit k hkn)))))); refine wpQuiet_nil ?_; intro w2 hb2; have hz2 := hb2.size; (try (simp at hz2)); obtain ⟨hcw2, hfw2⟩ := bcell hb2; (try (have hy2 : w.heap.size < w2.heap.size := by omega)); (try (have hyy2 : w.heap.size + 1 < w2.heap.size := by omega)))
        go_wp2
        go_ret
        exact ⟨ret_bool HF.out.symm, (by repeat (first | (with_reducible exact Below.refl _ _) | (with_reducible refine below_ov ?_ ?_) | (with_reducible refine Below.setCell ?_ ?_ _) | (with_reducible refine Below.alloc ?_ ?_ _) | (with_reducible refine Below.drew ?_) | (with_reducible refine below_drewN ?_ _) | (refine Below.trans ?_ (Below.mono ‹Below _ _ _› (by first | omega | (simp; done) | (simp; omega)))) | exact Below.refl _ _ | omega | (focus (simp; done)) | (focus (simp; omega))))⟩
      | true =>
        rcases Nat.eq_zero_or_pos k with h0 | h0
        · have HG : Hid (bd1 T k = true) := by show _ = _; rw [bd1, e1]; simp [h0]
          have d0 : decide (0 < k) = false := by simp; omega
          have dk : decide (k = 0) = true := by simp; omega
          clear h0
          go_wp2_with fail
          (refine wp_region_below_lit (by kernel_rfl) (by kernel_rfl) ?_; (repeat (first | go_big_quiet_step ((go_at_call 33; exact quiet_ov (isTeam_any (T k) blk (off + k * 4) lo hi _ _ (t0.out.below (B := wr.heap.size) (by repeat (first | (with_reducible exact Below.refl _ _) | (with_reducible refine below_ov ?_ ?_) | (with_reducible refine Below.setCell ?_ ?_ _) | (with_reducible refine Below.alloc ?_ ?_ _) | (with_reducible refine Below.drew ?_) | (with_reducible refine below_drewN ?_ _) | (refine Below.trans ?_ (Below.mono ‹Below _ _ _› (by first | omega | (simp; done) | (simp; omega)))) | exact Below.refl _ _ | omega | (focus (simp; done)) | (focus (simp; omega)))) (Nat.le_refl _)) (hfit k hkn)))) | quiet_step ((go_at_call 33; exact quiet_ov (isTeam_any (T k) blk (off + k * 4) lo hi _ _ (t0.out.below (B := wr.heap.size) (by repeat (first | (with_reducible exact Below.refl _ _) | (with_reducible refine below_ov ?_ ?_) | (with_reducible refine Below.setCell ?_ ?_ _) | (with_reducible refine Below.alloc ?_ ?_ _) | (with_reducible refine Below.drew ?_) | (with_reducible refine below_drewN ?_ _) | (refine Below.trans ?_ (Below.mono ‹Below _ _ _› (by first | omega | (simp; done) | (simp; omega)))) | exact Below.refl _ _ | omega | (focus (simp; done)) | (focus (simp; omega)))) (Nat.le_refl _)) (hfit k hkn)))))); refine wpQuiet_nil ?_; intro w2 hb2; have hz2 := hb2.size; (try (simp at hz2)); obtain ⟨hcw2, hfw2⟩ := bcell hb2; (try (have hy2 : w.heap.size < w2.heap.size := by omega)); (try (have hyy2 : w.heap.size + 1 < w2.heap.size := by omega)))
          go_wp2
          go_roundw
          case rel => exact ⟨k + 1, by omega, by go_num, upto_snoc hj.out HG.out, (by repeat (first | (with_reducible exact Below.refl _ _) | (with_reducible refine below_ov ?_ ?_) | (with_reducible refine Below.setCell ?_ ?_ _) | (with_reducible refine Below.alloc ?_ ?_ _) | (with_reducible refine Below.drew ?_) | (with_reducible refine below_drewN ?_ _) | (refine Below.trans ?_ (Below.mono ‹Below _ _ _› (by first | omega | (simp; done) | (simp; omega)))) | exact Below.refl _ _ | omega | (focus (simp; done)) | (focus (simp; omega))))⟩
          case measure => simp [intOf]; omega
        · have d0 : decide (0 < k) = true := by simp; omega
          have dk : decide (k = 0) = false := by simp; omega
          have z1 : IntKind.i64.wrap ((k : Int) - 1) = (k : Int) - 1 := IntWalk.i64_in _ (by omega)
          have z2 : ((k : Int) - 1).toNat = k - 1 := by omega
          cases e2 : Op.bytesLess (T (k - 1)).s.toList (T k).s.toList with
          | true =>
            have HG : Hid (bd1 T k = true) := by show _ = _; simp [bd1, ltS, e1, e2]
            go_wp2_with fail
            (refine wp_region_below_lit (by kernel_rfl) (by kernel_rfl) ?_; (repeat (first | go_big_quiet_step ((go_at_call 33; exact quiet_ov (isTeam_any (T k) blk (off + k * 4) lo hi _ _ (t0.out.below (B := wr.heap.size) (by repeat (first | (with_reducible exact Below.refl _ _) | (with_reducible refine below_ov ?_ ?_) | (with_reducible refine Below.setCell ?_ ?_ _) | (with_reducible refine Below.alloc ?_ ?_ _) | (with_reducible refine Below.drew ?_) | (with_reducible refine below_drewN ?_ _) | (refine Below.trans ?_ (Below.mono ‹Below _ _ _› (by first | omega | (simp; done) | (simp; omega)))) | exact Below.refl _ _ | omega | (focus (simp; done)) | (focus (simp; omega)))) (Nat.le_refl _)) (hfit k hkn)))) | quiet_step ((go_at_call 33; exact quiet_ov (isTeam_any (T k) blk (off + k * 4) lo hi _ _ (t0.out.below (B := wr.heap.size) (by repeat (first | (with_reducible exact Below.refl _ _) | (with_reducible refine below_ov ?_ ?_) | (with_reducible refine Below.setCell ?_ ?_ _) | (with_reducible refine Below.alloc ?_ ?_ _) | (with_reducible refine Below.drew ?_) | (with_reducible refine below_drewN ?_ _) | (refine Below.trans ?_ (Below.mono ‹Below _ _ _› (by first | omega | (simp; done) | (simp; omega)))) | exact Below.refl _ _ | omega | (focus (simp; done)) | (focus (simp; omega)))) (Nat.le_refl _)) (hfit k hkn)))))); refine wpQuiet_nil ?_; intro w2 hb2; have hz2 := hb2.size; (try (simp at hz2)); obtain ⟨hcw2, hfw2⟩ := bcell hb2; (try (have hy2 : w.heap.size < w2.heap.size := by omega)); (try (have hyy2 : w.heap.size + 1 < w2.heap.size := by omega)))
            go_wp2
            go_roundw
            case rel => exact ⟨k + 1, by omega, by go_num, upto_snoc hj.out HG.out, (by repeat (first | (with_reducible exact Below.refl _ _) | (with_reducible refine below_ov ?_ ?_) | (with_reducible refine Below.setCell ?_ ?_ _) | (with_reducible refine Below.alloc ?_ ?_ _) | (with_reducible refine Below.drew ?_) | (with_reducible refine below_drewN ?_ _) | (refine Below.trans ?_ (Below.mono ‹Below _ _ _› (by first | omega | (simp; done) | (simp; omega)))) | exact Below.refl _ _ | omega | (focus (simp; done)) | (focus (simp; omega))))⟩
            case measure => simp [intOf]; omega
          | false =>
            have HF : Hid (bdB T n = false) := by show _ = _; rw [bdB, allB_false hkn (by simp [bd1, ltS, e1, e2]; omega)]; rfl
            go_wp2_with fail
            (refine wp_region_below_lit (by kernel_rfl) (by kernel_rfl) ?_; (repeat (first | go_big_quiet_step ((go_at_call 33; exact quiet_ov (isTeam_any (T k) blk (off + k * 4) lo hi _ _ (t0.out.below (B := wr.heap.size) (by repeat (first | (with_reducible exact Below.refl _ _) | (with_reducible refine below_ov ?_ ?_) | (with_reducible refine Below.setCell ?_ ?_ _) | (with_reducible refine Below.alloc ?_ ?_ _) | (with_reducible refine Below.drew ?_) | (with_reducible refine below_drewN ?_ _) | (refine Below.trans ?_ (Below.mono ‹Below _ _ _› (by first | omega | (simp; done) | (simp; omega)))) | exact Below.refl _ _ | omega | (focus (simp; done)) | (focus (simp; omega)))) (Nat.le_refl _)) (hfit k hkn)))) | quiet_step ((go_at_call 33; exact quiet_ov (isTeam_any (T k) blk (off + k * 4) lo hi _ _ (t0.out.below (B := wr.heap.size) (by repeat (first | (with_reducible exact Below.refl _ _) | (with_reducible refine below_ov ?_ ?_) | (with_reducible refine Below.setCell ?_ ?_ _) | (with_reducible refine Below.alloc ?_ ?_ _) | (with_reducible refine Below.drew ?_) | (with_reducible refine below_drewN ?_ _) | (refine Below.trans ?_ (Below.mono ‹Below _ _ _› (by first | omega | (simp; done) | (simp; omega)))) | exact Below.refl _ _ | omega | (focus (simp; done)) | (focus (simp; omega)))) (Nat.le_refl _)) (hfit k hkn)))))); refine wpQuiet_nil ?_; intro w2 hb2; have hz2 := hb2.size; (try (simp at hz2)); obtain ⟨hcw2, hfw2⟩ := bcell hb2; (try (have hy2 : w.heap.size < w2.heap.size := by omega)); (try (have hyy2 : w.heap.size + 1 < w2.heap.size := by omega)))
            go_wp2
            go_ret
            exact ⟨ret_bool HF.out.symm, (by repeat (first | (with_reducible exact Below.refl _ _) | (with_reducible refine below_ov ?_ ?_) | (with_reducible refine Below.setCell ?_ ?_ _) | (with_reducible refine Below.alloc ?_ ?_ _) | (with_reducible refine Below.drew ?_) | (with_reducible refine below_drewN ?_ _) | (refine Below.trans ?_ (Below.mono ‹Below _ _ _› (by first | omega | (simp; done) | (simp; omega)))) | exact Below.refl _ _ | omega | (focus (simp; done)) | (focus (simp; omega))))⟩
    · obtain rfl : k = n := by omega
      have HE : Hid (bdB T k = decide ((k : Int) ≤ 6)) := by show _ = _; rw [bdB, allB_iff.2 hj.out]; rfl
      go_wp2_with fail
      go_ret
      exact ⟨ret_bool HE.out.symm, hb⟩
set_option maxRecDepth 100000 in
set_option maxHeartbeats 1600000 in
theorem enGood_any (T : Nat → Tm) (n lo hi : Nat) (v : Value) (w : World) (hv : SlT w lo hi v n T) (hhi : hi ≤ w.heap.size) (hf : tfits T n) :
    Calls Try.prog 40 #[v] w fun e w' => e = .returned (.bool (bdB T n)) ∧ Below w.heap.size w w' := by
  obtain ⟨A, cap, rfl, hcap⟩ := hv.open_
  obtain ⟨hn, hfit⟩ := hf
  go_enter Try.func40, Try.ntmps40
  go_wp2_with fail
  go_loopw [7] (fun i wr => ∃ k : Nat, k ≤ n ∧ i = .int .i64 k ∧ Hid (∀ j, j < k → bd1 T j = true) ∧ Below w.heap.size w wr) (fun i _ => n - (intOf i).toNat)
  case atStart => exact ⟨0, by omega, rfl, fun j hj => by omega, Below.refl _ _⟩
  case round =>
    obtain ⟨k, hk, rfl, hj, hb⟩ := hrel
    have hzr := hb.size
    by_cases hkn : k < n
    · obtain ⟨blk, off, ck, rfl, h1, h2, h3⟩ := (hv.below hb hhi).at_ (by omega) (by omega)
      have t0 := hide (h3 k hkn)
      have q0 := (h3 k hkn).c0
      have qa := (h3 k hkn).c1
      have qb := (h3 k hkn).c2
      have qc := (h3 k hkn).c3
      have q1 := (h3 (k - 1) (by omega)).c0
      have l0 : blk < wr.heap.size := by omega
      obtain ⟨Ak, ckk, ek, _, _⟩ := t0.out.sl.open_
      have sk := t0.out.sl
      rw [ek] at qc sk
      have SK := hide sk
      clear ek sk
      clear h3
      cases e1 : tmB (T k) with
      | false =>
        have HF : Hid (bdB T n = false) := by show _ = _; rw [bdB, allB_false hkn (by simp [bd1, e1])]; rfl
        go_wp2_with fail
        (refine wp_region_below_lit (by kernel_rfl) (by kernel_rfl) ?_; (repeat (first | go_big_quiet_step ((go_at_call 41; exact quiet_ov (enOne_any (T k) lo hi _ _ (SK.out.below (B := wr.heap.size) (by repeat (first | (with_reducible exact Below.refl _ _) | (with_reducible refine below_ov ?_ ?_) | (with_reducible refine Below.setCell ?_ ?_ _) | (with_reducible refine Below.alloc ?_ ?_ _) | (with_reducible refine Below.drew ?_) | (with_reducible refine below_drewN ?_ _) | (refine Below.trans ?_ (Below.mono ‹Below _ _ _› (by first | omega | (simp; done) | (simp; omega)))) | exact Below.refl _ _ | omega | (focus (simp; done)) | (focus (simp; omega)))) (by omega)) (by simp [ov]; omega) (hfit k hkn)))) | quiet_step ((go_at_call 41; exact quiet_ov (enOne_any (T k) lo hi _ _ (SK.out.below (B := wr.heap.size) (by repeat (first | (with_reducible exact Below.refl _ _) | (with_reducible refine below_ov ?_ ?_) | (with_reducible refine Below.setCell ?_ ?_ _) | (with_reducible refine Below.alloc ?_ ?_ _) | (with_reducible refine Below.drew ?_) | (with_reducible refine below_drewN ?_ _) | (refine Below.trans ?_ (Below.mono ‹Below _ _ _› (by first | omega | (simp; done) | (simp; omega)))) | exact Below.refl _ _ | omega | (focus (simp; done)) | (focus (simp; omega)))) (by omega)) (by simp [ov]; omega) (hfit k hkn)))))); refine wpQuiet_nil ?_; intro w2 hb2; have hz2 := hb2.size; (try (simp at hz2)); obtain ⟨hcw2, hfw2⟩ := bcell hb2; (try (have hy2 : w.heap.size < w2.heap.size := by omega)); (try (have hyy2 : w.heap.size + 1 < w2.heap.size := by omega)))
        go_wp2
        go_ret
        exact ⟨ret_bool HF.out.symm, (by repeat (first | (with_reducible exact Below.refl _ _) | (with_reducible refine below_ov ?_ ?_) | (with_reducible refine Below.setCell ?_ ?_ _) | (with_reducible refine Below.alloc ?_ ?_ _) | (with_reducible refine Below.drew ?_) | (with_reducible refine below_drewN ?_ _) | (refine Below.trans ?_ (Below.mono ‹Below _ _ _› (by first | omega | (simp; done) | (simp; omega)))) | exact Below.refl _ _ | omega | (focus (simp; done)) | (focus (simp; omega))))⟩
      | true =>
        rcases Nat.eq_zero_or_pos k with h0 | h0
        · have HG : Hid (bd1 T k = true) := by show _ = _; rw [bd1, e1]; simp [h0]
          have d0 : decide (0 < k) = false := by simp; omega
          have dk : decide (k = 0) = true := by simp; omega
          clear h0
          go_wp2_with fail
          (refine wp_region_below_lit (by kernel_rfl) (by kernel_rfl) ?_; (repeat (first | go_big_quiet_step ((go_at_call 41; exact quiet_ov (enOne_any (T k) lo hi _ _ (SK.out.below (B := wr.heap.size) (by repeat (first | (with_reducible exact Below.refl _ _) | (with_reducible refine below_ov ?_ ?_) | (with_reducible refine Below.setCell ?_ ?_ _) | (with_reducible refine Below.alloc ?_ ?_ _) | (with_reducible refine Below.drew ?_) | (with_reducible refine below_drewN ?_ _) | (refine Below.trans ?_ (Below.mono ‹Below _ _ _› (by first | omega | (simp; done) | (simp; omega)))) | exact Below.refl _ _ | omega | (focus (simp; done)) | (focus (simp; omega)))) (by omega)) (by simp [ov]; omega) (hfit k hkn)))) | quiet_step ((go_at_call 41; exact quiet_ov (enOne_any (T k) lo hi _ _ (SK.out.below (B := wr.heap.size) (by repeat (first | (with_reducible exact Below.refl _ _) | (with_reducible refine below_ov ?_ ?_) | (with_reducible refine Below.setCell ?_ ?_ _) | (with_reducible refine Below.alloc ?_ ?_ _) | (with_reducible refine Below.drew ?_) | (with_reducible refine below_drewN ?_ _) | (refine Below.trans ?_ (Below.mono ‹Below _ _ _› (by first | omega | (simp; done) | (simp; omega)))) | exact Below.refl _ _ | omega | (focus (simp; done)) | (focus (simp; omega)))) (by omega)) (by simp [ov]; omega) (hfit k hkn)))))); refine wpQuiet_nil ?_; intro w2 hb2; have hz2 := hb2.size; (try (simp at hz2)); obtain ⟨hcw2, hfw2⟩ := bcell hb2; (try (have hy2 : w.heap.size < w2.heap.size := by omega)); (try (have hyy2 : w.heap.size + 1 < w2.heap.size := by omega)))
          go_wp2
          go_roundw
          case rel => exact ⟨k + 1, by omega, by go_num, upto_snoc hj.out HG.out, (by repeat (first | (with_reducible exact Below.refl _ _) | (with_reducible refine below_ov ?_ ?_) | (with_reducible refine Below.setCell ?_ ?_ _) | (with_reducible refine Below.alloc ?_ ?_ _) | (with_reducible refine Below.drew ?_) | (with_reducible refine below_drewN ?_ _) | (refine Below.trans ?_ (Below.mono ‹Below _ _ _› (by first | omega | (simp; done) | (simp; omega)))) | exact Below.refl _ _ | omega | (focus (simp; done)) | (focus (simp; omega))))⟩
          case measure => simp [intOf]; omega
        · have d0 : decide (0 < k) = true := by simp; omega
          have dk : decide (k = 0) = false := by simp; omega
          have z1 : IntKind.i64.wrap ((k : Int) - 1) = (k : Int) - 1 := IntWalk.i64_in _ (by omega)
          have z2 : ((k : Int) - 1).toNat = k - 1 := by omega
          cases e2 : Op.bytesLess (T (k - 1)).s.toList (T k).s.toList with
          | true =>
            have HG : Hid (bd1 T k = true) := by show _ = _; simp [bd1, ltS, e1, e2]
            go_wp2_with fail
            (refine wp_region_below_lit (by kernel_rfl) (by kernel_rfl) ?_; (repeat (first | go_big_quiet_step ((go_at_call 41; exact quiet_ov (enOne_any (T k) lo hi _ _ (SK.out.below (B := wr.heap.size) (by repeat (first | (with_reducible exact Below.refl _ _) | (with_reducible refine below_ov ?_ ?_) | (with_reducible refine Below.setCell ?_ ?_ _) | (with_reducible refine Below.alloc ?_ ?_ _) | (with_reducible refine Below.drew ?_) | (with_reducible refine below_drewN ?_ _) | (refine Below.trans ?_ (Below.mono ‹Below _ _ _› (by first | omega | (simp; done) | (simp; omega)))) | exact Below.refl _ _ | omega | (focus (simp; done)) | (focus (simp; omega)))) (by omega)) (by simp [ov]; omega) (hfit k hkn)))) | quiet_step ((go_at_call 41; exact quiet_ov (enOne_any (T k) lo hi _ _ (SK.out.below (B := wr.heap.size) (by repeat (first | (with_reducible exact Below.refl _ _) | (with_reducible refine below_ov ?_ ?_) | (with_reducible refine Below.setCell ?_ ?_ _) | (with_reducible refine Below.alloc ?_ ?_ _) | (with_reducible refine Below.drew ?_) | (with_reducible refine below_drewN ?_ _) | (refine Below.trans ?_ (Below.mono ‹Below _ _ _› (by first | omega | (simp; done) | (simp; omega)))) | exact Below.refl _ _ | omega | (focus (simp; done)) | (focus (simp; omega)))) (by omega)) (by simp [ov]; omega) (hfit k hkn)))))); refine wpQuiet_nil ?_; intro w2 hb2; have hz2 := hb2.size; (try (simp at hz2)); obtain ⟨hcw2, hfw2⟩ := bcell hb2; (try (have hy2 : w.heap.size < w2.heap.size := by omega)); (try (have hyy2 : w.heap.size + 1 < w2.heap.size := by omega)))
            go_wp2
            go_roundw
            case rel => exact ⟨k + 1, by omega, by go_num, upto_snoc hj.out HG.out, (by repeat (first | (with_reducible exact Below.refl _ _) | (with_reducible refine below_ov ?_ ?_) | (with_reducible refine Below.setCell ?_ ?_ _) | (with_reducible refine Below.alloc ?_ ?_ _) | (with_reducible refine Below.drew ?_) | (with_reducible refine below_drewN ?_ _) | (refine Below.trans ?_ (Below.mono ‹Below _ _ _› (by first | omega | (simp; done) | (simp; omega)))) | exact Below.refl _ _ | omega | (focus (simp; done)) | (focus (simp; omega))))⟩
            case measure => simp [intOf]; omega
          | false =>
            have HF : Hid (bdB T n = false) := by show _ = _; rw [bdB, allB_false hkn (by simp [bd1, ltS, e1, e2]; omega)]; rfl
            go_wp2_with fail
            (refine wp_region_below_lit (by kernel_rfl) (by kernel_rfl) ?_; (repeat (first | go_big_quiet_step ((go_at_call 41; exact quiet_ov (enOne_any (T k) lo hi _ _ (SK.out.below (B := wr.heap.size) (by repeat (first | (with_reducible exact Below.refl _ _) | (with_reducible refine below_ov ?_ ?_) | (with_reducible refine Below.setCell ?_ ?_ _) | (with_reducible refine Below.alloc ?_ ?_ _) | (with_reducible refine Below.drew ?_) | (with_reducible refine below_drewN ?_ _) | (refine Below.trans ?_ (Below.mono ‹Below _ _ _› (by first | omega | (simp; done) | (simp; omega)))) | exact Below.refl _ _ | omega | (focus (simp; done)) | (focus (simp; omega)))) (by omega)) (by simp [ov]; omega) (hfit k hkn)))) | quiet_step ((go_at_call 41; exact quiet_ov (enOne_any (T k) lo hi _ _ (SK.out.below (B := wr.heap.size) (by repeat (first | (with_reducible exact Below.refl _ _) | (with_reducible refine below_ov ?_ ?_) | (with_reducible refine Below.setCell ?_ ?_ _) | (with_reducible refine Below.alloc ?_ ?_ _) | (with_reducible refine Below.drew ?_) | (with_reducible refine below_drewN ?_ _) | (refine Below.trans ?_ (Below.mono ‹Below _ _ _› (by first | omega | (simp; done) | (simp; omega)))) | exact Below.refl _ _ | omega | (focus (simp; done)) | (focus (simp; omega)))) (by omega)) (by simp [ov]; omega) (hfit k hkn)))))); refine wpQuiet_nil ?_; intro w2 hb2; have hz2 := hb2.size; (try (simp at hz2)); obtain ⟨hcw2, hfw2⟩ := bcell hb2; (try (have hy2 : w.heap.size < w2.heap.size := by omega)); (try (have hyy2 : w.heap.size + 1 < w2.heap.size := by omega)))
            go_wp2
            go_ret
            exact ⟨ret_bool HF.out.symm, (by repeat (first | (with_reducible exact Below.refl _ _) | (with_reducible refine below_ov ?_ ?_) | (with_reducible refine Below.setCell ?_ ?_ _) | (with_reducible refine Below.alloc ?_ ?_ _) | (with_reducible refine Below.drew ?_) | (with_reducible refine below_drewN ?_ _) | (refine Below.trans ?_ (Below.mono ‹Below _ _ _› (by first | omega | (simp; done) | (simp; omega)))) | exact Below.refl _ _ | omega | (focus (simp; done)) | (focus (simp; omega))))⟩
    · obtain rfl : k = n := by omega
      have HE : Hid (bdB T k = decide ((k : Int) ≤ 6)) := by show _ = _; rw [bdB, allB_iff.2 hj.out]; rfl
      go_wp2_with fail
      go_ret
      exact ⟨ret_bool HE.out.symm, hb⟩

end Go.Proofs.Ytnfhgnibjebmlaa

/-
  Words for a drawn board: a row of teams of the call's own, each with its checks in a block of its own.-/
namespace Go.Proofs.Ytnfhgnibjebmlaa
set_option linter.unusedVariables false
set_option linter.unusedSimpArgs false
open Go.RowKit

/-- A row of teams whose checks lie beside it. -/
def BdI (w : World) (base : Nat) (v : Value) (k : Nat) (T : Nat → Tm) (ck : Nat → Value) : Prop :=
  w.ownsRow base 27 4 v k (rowL (tC T ck) 4 k) ∧ ∀ i, i < k → IRow w base 2 (ck i) (T i).n ∧ ∀ q cap, ck i = .slice (some ⟨q, 0, none⟩) (T i).n cap → v.ownBlock ≠ some q
theorem IRow.grown {w w' : World} {lo sz n : Nat} {u : Value} {row : Option Nat} (h : IRow w lo sz u n) (hg : w.grownBy w' row) (hne : ∀ q cap, u = .slice (some ⟨q, 0, none⟩) n cap → row ≠ some q) : IRow w' lo sz u n := by
  rcases h with h1 | ⟨q, cap, h0, h1, h2, h3, h4, h5⟩
  · exact .inl h1
  · have hk : w'.heap[q]? = w.heap[q]? := hg.block q h3 (fun e => hne q cap h0 e.symm)
    refine .inr ⟨q, cap, h0, h1, h2, Nat.lt_of_lt_of_le h3 hg.size, fun o => (World.frozen?_of_block (a := ⟨q, o, none⟩) hk).trans (h4 o), fun o ho => ?_⟩
    obtain ⟨x, hx⟩ := h5 o ho
    exact ⟨x, (World.cell?_of_block (a := ⟨q, o, none⟩) hk).trans hx⟩
theorem IRow.at_lo {w : World} {lo sz n : Nat} {u : Value} (h : IRow w lo sz u n) {q cap : Nat} (e : u = .slice (some ⟨q, 0, none⟩) n cap) : lo ≤ q ∧ q < w.heap.size := by
  subst e
  rcases h with ⟨h, _⟩ | ⟨q', cap', h0, h1, h2, h3, h4, h5⟩
  · cases h
  · cases h0
    exact ⟨h2, h3⟩
section
variable {w w' : World} {base g k : Nat} {v : Value} {T : Nat → Tm} {ck : Nat → Value}
theorem BdI.nil (w : World) (base : Nat) (T : Nat → Tm) (ck : Nat → Value) : BdI w base (.slice none 0 0) 0 T ck := ⟨World.ownsRow_nil _ _ _ _, fun i h => absurd h (Nat.not_lt_zero _)⟩
theorem BdI.only (h : BdI w base v k T ck) (hO : Only g (g + 1) w w') (hg : g < base) : BdI w' base v k T ck := ⟨row_only h.1 hO hg, fun i hi => ⟨(h.2 i hi).1.only hO hg, (h.2 i hi).2⟩⟩
theorem BdI.alloc (h : BdI w base v k T ck) (o : Obj) : BdI (w.alloc o) base v k T ck := ⟨h.1.alloc o, fun i hi => ⟨(h.2 i hi).1.alloc o, (h.2 i hi).2⟩⟩
/-- As a board that is read. -/
theorem BdI.slT (h : BdI w base v k T ck) : ∃ T' : Nat → Tm, SlT w base w.heap.size v k T' ∧ ∀ i, (T' i).s = (T i).s ∧ (T' i).n = (T i).n := by
  have hx : ∀ i, ∃ f b : Nat → Int, i < k → Sl w base w.heap.size 2 (ck i) (T i).n (iiC f b) := fun i => by
    by_cases hi : i < k
    · obtain ⟨f, b, hs⟩ := (h.2 i hi).1.sl2
      exact ⟨f, b, fun _ => hs⟩
    · exact ⟨fun _ => 0, fun _ => 0, fun h => absurd h hi⟩
  obtain ⟨F, hF⟩ := Classical.axiomOfChoice hx
  obtain ⟨B, hB⟩ := Classical.axiomOfChoice hF
  exact ⟨fun i => { T i with m := F i, b := B i }, ⟨ck, (own_row h.1).sl, fun i hi => hB i hi⟩, fun i => ⟨rfl, rfl⟩⟩
theorem rowL_team (T : Nat → Tm) (ck : Nat → Value) (k : Nat) (X : Tm) (u : Value) : rowL (tC T ck) 4 k ++ [.string X.s, .int .i64 X.v, .int .i64 X.y, u] = rowL (tC (fun i => if i < k then T i else X) (fun i => if i < k then ck i else u)) 4 (k + 1) := by
  rw [rowL]
  congr 1
  · refine rowL_congr fun i j hi _ => ?_
    simp [tC, hi]
  · simp [List.range, List.range.loop, tC]
/-- One team more. -/
theorem BdI.push {v' u : Value} {lo b2 : Nat} {X : Tm} (h : BdI w base v k T ck) (hu : IRow w lo 2 u X.n) (hlo : base ≤ lo) (hv : ∀ q, v.ownBlock = some q → q < lo) (hb : base ≤ w.heap.size) (hb2 : w.heap.size ≤ b2)
    (hr : (v'.ownBlock = v.ownBlock ∧ w'.ownsRow base 27 4 v' (k + 1) (rowL (tC T ck) 4 k ++ [.string X.s, .int .i64 X.v, .int .i64 X.y, u]) ∧ w.grownBy w' v.ownBlock) ∨ (w'.ownsRow b2 27 4 v' (k + 1) (rowL (tC T ck) 4 k ++ [.string X.s, .int .i64 X.v, .int .i64 X.y, u]) ∧ w.grownBy w' none)) :
    BdI w' base v' (k + 1) (fun i => if i < k then T i else X) (fun i => if i < k then ck i else u) := by
  have hub : ∀ q cap, u = .slice (some ⟨q, 0, none⟩) X.n cap → v.ownBlock ≠ some q := fun q cap e e2 => by
    have h1 := hu.at_lo e
    have h2 := hv q e2
    omega
  rw [rowL_team] at hr
  rcases hr with ⟨e, h1, hg⟩ | ⟨h1, hg⟩
  · refine ⟨h1, fun i hi => ?_⟩
    by_cases hik : i < k
    · simp only [if_pos hik]
      refine ⟨(h.2 i hik).1.grown hg (h.2 i hik).2, ?_⟩
      rw [e]
      exact (h.2 i hik).2
    · simp only [if_neg hik]
      refine ⟨(hu.grown hg hub).mono hlo, ?_⟩
      rw [e]
      exact hub
  · have h0 : w'.ownsRow base 27 4 v' (k + 1) (rowL (tC (fun i => if i < k then T i else X) (fun i => if i < k then ck i else u)) 4 (k + 1)) := by
      have h2 := (own_row h1).mono (Nat.le_trans hb hb2) (Nat.le_refl _)
      exact h2.row
    refine ⟨h0, fun i hi => ?_⟩
    by_cases hik : i < k
    · simp only [if_pos hik]
      refine ⟨(h.2 i hik).1.grown hg (fun _ _ _ => by simp), fun q cap e e2 => ?_⟩
      have h2 := (h1.lt q e2).1
      have h3 := (h.2 i hik).1.at_lo e
      omega
    · simp only [if_neg hik]
      refine ⟨(hu.grown hg (fun _ _ _ => by simp)).mono hlo, fun q cap e e2 => ?_⟩
      have h2 := (h1.lt q e2).1
      have h3 := hu.at_lo e
      omega
end

end Go.Proofs.Ytnfhgnibjebmlaa

/-
  Walks: what the reference draws as a board (printed by gen_drwb.py): Whatever it is.-/
namespace Go.Proofs.Ytnfhgnibjebmlaa
set_option linter.unusedVariables false
set_option linter.unusedSimpArgs false
open Go.RowKit

theorem infoTmB : (Try.prog.info? 27).map (fun i => (i.zero, i.size, i.bytes)) = some (some (.agg #[.string ⟨#[]⟩, .int .i64 0, .int .i64 0, .slice none 0 0]), 4, 56) := by kernel_rfl
theorem four_one (s : ByteArray) (x y : Int) (A : Option Addr) (n c : Nat) : ∀ u ∈ [Value.string s, .int .i64 x, .int .i64 y, .slice A n c], u.oneCell' = true := by
  intro u hu
  simp at hu
  rcases hu with rfl | rfl | rfl | rfl <;> rfl
theorem bdO {lo hi : Nat} {w w1 w2 : World} {row : Option Nat} (h : Only lo hi w w1) (hg : w1.grownBy w2 row) (hr : ∀ q, row = some q → w.heap.size ≤ q) : Only lo hi w w2 := Only.grown h hg hr
theorem bdC {w w' : World} {g m : Nat} {row : Option Nat} (h : Cu w g m) (hg : w.grownBy w' row) (hr : ∀ q, row = some q → g < q) : Cu w' g m := Cu.grown h hg hr
/-- The list's four names lie below. -/
def Nms (w : World) (nb : Nat) : Prop := nb < w.heap.size ∧ ∀ i, i < 4 → ∃ s : ByteArray, w.cell? ⟨nb, i, none⟩ = some (.string s) ∧ s.size ≤ 7
theorem Nms.keep {w w' : World} {nb : Nat} (h : Nms w nb) (hz : w.heap.size ≤ w'.heap.size) (hk : w'.heap[nb]? = w.heap[nb]?) : Nms w' nb :=
  ⟨by have := h.1; omega, fun i hi => by obtain ⟨s, h1, h2⟩ := h.2 i hi; exact ⟨s, (World.cell?_of_block (a := ⟨nb, i, none⟩) hk).trans h1, h2⟩⟩
theorem Nms.only {w w' : World} {nb g : Nat} (h : Nms w nb) (hO : Only g (g + 1) w w') (hne : nb ≠ g) : Nms w' nb := h.keep hO.size (hO.block nb h.1 (by omega))
/-- A text of at most 7 bytes. -/
def bdSm : Value → Bool
  | .string s => decide (s.size ≤ 7)
  | _ => false
theorem bd_small {s : ByteArray} {l : List Value} (h : .string s ∈ l) (ha : l.all bdSm = true) : s.size ≤ 7 := of_decide_eq_true (List.all_eq_true.1 ha _ h)
/-- What a drawn board is. -/
def BoPost (g m : Nat) (w : World) (e : Ending) (w' : World) : Prop := ∃ (v : Value) (n : Nat) (T : Nat → Tm), e = .returned v ∧ n ≤ 7 ∧ (∀ i, i < n → (T i).s.size ≤ 7 ∧ (T i).n ≤ 21) ∧ SlT w' w.heap.size w'.heap.size v n T ∧ Cu w' g m ∧ Only g (g + 1) w w'
set_option maxRecDepth 100000 in
set_option maxHeartbeats 6400000 in
theorem board_any (g m : Nat) (w : World) (h : Cu w g m) (hm : m < 80000000) :
    Calls Try.prog 29 #[.pointer (some ⟨g, 0, none⟩)] w (BoPost g (m + 3000) w) := by
  have hg := h.lt
  obtain ⟨ii, hii, iz0, iz1, iz2⟩ := info_parts infoTmB
  have N0 : Hid (Nms (w.alloc (.cells #[.string ⟨#[97]⟩, .string ⟨#[98]⟩, .string ⟨#[99]⟩, .string ⟨#[100, 49]⟩] 9)) w.heap.size) := by
    refine ⟨by simp, fun i hi => ?_⟩
    match i, hi with
    | 0, _ => exact ⟨⟨#[97]⟩, by simp [go_sem], by decide⟩
    | 1, _ => exact ⟨⟨#[98]⟩, by simp [go_sem], by decide⟩
    | 2, _ => exact ⟨⟨#[99]⟩, by simp [go_sem], by decide⟩
    | 3, _ => exact ⟨⟨#[100, 49]⟩, by simp [go_sem], by decide⟩
  have C0 := h.alloc (.cells #[.string ⟨#[97]⟩, .string ⟨#[98]⟩, .string ⟨#[99]⟩, .string ⟨#[100, 49]⟩] 9)
  have O0 : Only g (g + 1) w (w.alloc (.cells #[.string ⟨#[97]⟩, .string ⟨#[98]⟩, .string ⟨#[99]⟩, .string ⟨#[100, 49]⟩] 9)) := (Only.refl _ _ _).alloc _
  go_enter Try.func29, Try.ntmps29
  go_wp2_with fail
  go_loopg [3, 9] 6 (fun gn lv iv wr => ∃ (k t : Nat) (A : Option Addr) (cp : Nat) (T : Nat → Tm) (ck : Nat → Value), k ≤ t ∧ t ≤ 4 ∧ 4 - t < gn ∧ lv = .slice A k cp ∧ iv = .int .i64 t ∧ Hid (BdI wr (w.heap.size + 1) (.slice A k cp) k T ck) ∧ Hid (∀ i, i < k → (T i).s.size ≤ 7 ∧ (T i).n ≤ 21) ∧ Hid (Nms wr w.heap.size) ∧ Cu wr g (m + 400 * t) ∧ Only g (g + 1) w wr)
  case atStart => exact ⟨0, 0, none, 0, fun _ => ⟨⟨#[]⟩, 0, 0, 0, fun _ => 0, fun _ => 0⟩, fun _ => .slice none 0 0, by omega, by omega, by omega, rfl, rfl, BdI.nil _ _ _ _, (fun i hi => absurd hi (Nat.not_lt_zero _)), N0, C0.more (by omega), O0⟩
  case round =>
    clear N0 C0 O0
    obtain ⟨k, t, A, cp, T, ck, hkt, ht4, hgn, rfl, rfl, HB, HS, HN, Cr, Or⟩ := hrel
    have hzr : w.heap.size + 1 ≤ wr.heap.size := by have := HN.out.1; omega
    by_cases htn : t < 4
    · obtain ⟨s, cs, hss⟩ := HN.out.2 t htn
      have hnl := HN.out.1
      go_wp2_with fail
      clear cs
      refine (one_any g _ _ _ Cr (by omega)).mono ?_
      rintro e w1 ⟨b1, rfl, C1, o1⟩
      have HB1 := hide (HB.out.only o1 (by omega))
      have HN1 := hide (HN.out.only o1 (by omega))
      have O1 := Or.trans o1
      have hz1 := o1.size
      clear HB HN Cr Or o1
      cases b1 with
      | false =>
        go_wp2_with fail
        go_roundg (4 - t)
        case measure => omega
        case rel => exact ⟨k, t + 1, A, cp, T, ck, by omega, by omega, by omega, rfl, by go_num, HB1, HS, HN1, C1.more (by omega), O1⟩
      | true =>
        go_wp2_with fail
        refine (team_any s g _ _ C1 (by omega)).mono ?_
        rintro e w2 ⟨x, y, u, n, rfl, I2, hn2, C2, o2⟩
        obtain ⟨Au, cu, rfl⟩ := I2.form
        have HI2 := hide I2
        have HB2 := hide (HB1.out.only o2 (by omega))
        have O2 := O1.trans o2
        have hz2 := o2.size
        have HN2 := hide (HN1.out.only o2 (by omega))
        have hvo : ∀ q, (Value.slice A k cp).ownBlock = some q → q < w1.heap.size := fun q hq => (HB1.out.1.lt q hq).2
        clear I2 HB1 O1 o2 C1 HN1
        go_wp2_with (at_builtin; refine wpList_append_two _ rfl _ _ 24 rfl (w.heap.size + 1) 27 ii (.agg #[.string ⟨#[]⟩, .int .i64 0, .int .i64 0, .slice none 0 0]) 4 56 Try.underlying24 hii iz0 iz1 iz2 rfl (by decide) _ _ _ rfl (HB2.out.1.alloc _) ⟨w2.heap.size, 0, none⟩ 1 1 [.string s, .int .i64 x, .int .i64 y, .slice Au n cu] rfl rfl ?_ (four_one s x y Au n cu) (by omega) ?_ ?_ ?_)
        · intro i u hu
          match i, hu with
          | 0, hu => simp at hu; subst hu; simp [go_sem, Addr.add]
          | 1, hu => simp at hu; subst hu; simp [go_sem, Addr.add]
          | 2, hu => simp at hu; subst hu; simp [go_sem, Addr.add]
          | 3, hu => simp at hu; subst hu; simp [go_sem, Addr.add]
        · unfold maxLen; omega
        · omega
        intro v7 w7 hcase
        have hgb : ∃ row, (w2.alloc (.cells #[.string s, .int .i64 x, .int .i64 y, .slice Au n cu] 27)).grownBy w7 row ∧ ∀ q, row = some q → (w.heap.size + 1) ≤ q := by
          rcases hcase with ⟨_, _, r2⟩ | ⟨_, r2⟩
          · exact ⟨_, r2, fun q hq => (HB2.out.1.lt q hq).1⟩
          · exact ⟨_, r2, fun q hq => by cases hq⟩
        obtain ⟨row7, hg7, hrow7⟩ := hgb
        have O7 : Only g (g + 1) w w7 := bdO (O2.alloc _) hg7 (fun q hq => by have := hrow7 q hq; omega)
        have C7 := bdC (C2.alloc _) hg7 (fun q hq => by have := hrow7 q hq; omega)
        have HB7 := hide (BdI.push (X := ⟨s, x, y, n, fun _ => 0, fun _ => 0⟩) (HB2.out.alloc _) (HI2.out.alloc _) (by omega) hvo (by simp; omega) (by simp) hcase)
        obtain ⟨A7, c7, rfl⟩ := row_form HB7.out.1
        have HS7 : Hid (∀ i, i < k + 1 → ((fun i => if i < k then T i else ⟨s, x, y, n, fun _ => 0, fun _ => 0⟩ : Nat → Tm) i).s.size ≤ 7 ∧ ((fun i => if i < k then T i else ⟨s, x, y, n, fun _ => 0, fun _ => 0⟩ : Nat → Tm) i).n ≤ 21) := fun i hi => by
          by_cases h : i < k
          · simp only [if_pos h]; exact HS.out i h
          · simp only [if_neg h]; exact ⟨hss, hn2⟩
        have HN7 : Hid (Nms w7 w.heap.size) := by
          refine (HN2.out.keep (w' := w2.alloc _) (by simp) (((Below.refl _ _).alloc (Nat.le_refl _) _).block _ HN2.out.1)).keep hg7.size (hg7.block _ (by have := HN2.out.1; simp; omega) (fun e => by have := hrow7 _ e.symm; omega))
        clear HB2 HI2 HN2 C2 O2 hcase hg7 hrow7 hvo
        go_wp2_with fail
        go_roundg (4 - t)
        case measure => omega
        case rel => exact ⟨k + 1, t + 1, A7, c7, _, _, by omega, by omega, by omega, rfl, by go_num, HB7, HS7, HN7, C7.more (by omega), O7⟩
    · clear hgn
      go_wp2_with fail
      refine (pick_any g _ _ _ Cr (by omega)).mono ?_
      rintro e w1 ⟨v1, rfl, hv1, C1, o1⟩
      have HB1 := hide (HB.out.only o1 (by omega))
      have O1 := Or.trans o1
      have hz1 := o1.size
      clear HB HN Cr Or o1
      by_cases e0 : v1 = 0
      · subst e0
        go_wp2_with fail
        refine (of_new g _ _ _ _ _ _ C1 (by first | (with_reducible rfl) | simp) (by omega) (by rfl) (by decide) (by decide) (by simp [isS])).mono ?_
        rintro e w2 ⟨s, rfl, hM2, C2, o2⟩
        have hss : s.size ≤ 7 := bd_small hM2 (by simp [bdSm]; try decide)
        have HB2 := hide (HB1.out.only o2 (by omega))
        have O2 := O1.trans o2
        have hz2 := o2.size
        clear hM2 HB1 O1 C1 o2
        go_wp2_with fail
        refine (team_any s g _ _ C2 (by omega)).mono ?_
        rintro e w3 ⟨x, y, u, n, rfl, I3, hn3, C3, o3⟩
        obtain ⟨Au, cu, rfl⟩ := I3.form
        have HI3 := hide I3
        have HB3 := hide (HB2.out.only o3 (by omega))
        have O3 := O2.trans o3
        have hz3 := o3.size
        have hvo : ∀ q, (Value.slice A k cp).ownBlock = some q → q < w2.heap.size := fun q hq => (HB2.out.1.lt q hq).2
        clear I3 HB2 O2 o3 C2
        go_wp2_with (at_builtin; refine wpList_append_two _ rfl _ _ 24 rfl (w.heap.size + 1) 27 ii (.agg #[.string ⟨#[]⟩, .int .i64 0, .int .i64 0, .slice none 0 0]) 4 56 Try.underlying24 hii iz0 iz1 iz2 rfl (by decide) _ _ _ rfl (HB3.out.1.alloc _) ⟨w3.heap.size, 0, none⟩ 1 1 [.string s, .int .i64 x, .int .i64 y, .slice Au n cu] rfl rfl ?_ (four_one s x y Au n cu) (by omega) ?_ ?_ ?_)
        · intro i u hu
          match i, hu with
          | 0, hu => simp at hu; subst hu; simp [go_sem, Addr.add]
          | 1, hu => simp at hu; subst hu; simp [go_sem, Addr.add]
          | 2, hu => simp at hu; subst hu; simp [go_sem, Addr.add]
          | 3, hu => simp at hu; subst hu; simp [go_sem, Addr.add]
        · unfold maxLen; omega
        · omega
        intro v7 w7 hcase
        have hgb : ∃ row, (w3.alloc (.cells #[.string s, .int .i64 x, .int .i64 y, .slice Au n cu] 27)).grownBy w7 row ∧ ∀ q, row = some q → (w.heap.size + 1) ≤ q := by
          rcases hcase with ⟨_, _, r2⟩ | ⟨_, r2⟩
          · exact ⟨_, r2, fun q hq => (HB3.out.1.lt q hq).1⟩
          · exact ⟨_, r2, fun q hq => by cases hq⟩
        obtain ⟨row7, hg7, hrow7⟩ := hgb
        have O7 : Only g (g + 1) w w7 := bdO (O3.alloc _) hg7 (fun q hq => by have := hrow7 q hq; omega)
        have C7 := bdC (C3.alloc _) hg7 (fun q hq => by have := hrow7 q hq; omega)
        have HB7 := hide (BdI.push (X := ⟨s, x, y, n, fun _ => 0, fun _ => 0⟩) (HB3.out.alloc _) (HI3.out.alloc _) (by omega) hvo (by simp; omega) (by simp) hcase)
        obtain ⟨A7, c7, rfl⟩ := row_form HB7.out.1
        have HS7 : Hid (∀ i, i < k + 1 → ((fun i => if i < k then T i else ⟨s, x, y, n, fun _ => 0, fun _ => 0⟩ : Nat → Tm) i).s.size ≤ 7 ∧ ((fun i => if i < k then T i else ⟨s, x, y, n, fun _ => 0, fun _ => 0⟩ : Nat → Tm) i).n ≤ 21) := fun i hi => by
          by_cases h : i < k
          · simp only [if_pos h]; exact HS.out i h
          · simp only [if_neg h]; exact ⟨hss, hn3⟩
        clear HB3 HI3 C3 O3 hcase hg7 hrow7 hvo
        obtain ⟨T', hT1, hT2⟩ := HB7.out.slT
        have HSF : Hid (∀ i, i < (k + 1) → (T' i).s.size ≤ 7 ∧ (T' i).n ≤ 21) := fun i hi => by
          have h1 := HS7.out i hi
          rw [(hT2 i).1, (hT2 i).2]
          exact h1
        obtain ⟨ck2, q1, q2⟩ := hT1
        have HF : Hid (SlT _ w.heap.size _ _ (k + 1) T') := ⟨ck2, q1.mono (by omega) (Nat.le_refl _), fun i hi => (q2 i hi).mono (by omega) (Nat.le_refl _)⟩
        clear q1 q2 HB7 HS7 hT2
        go_wp2_with fail
        go_ret
        exact ⟨_, (k + 1), T', rfl, by omega, HSF.out, HF.out, C7.more (by omega), O7⟩
      · have d0 : (v1 == 0) = false := by simp [e0]
        by_cases e1 : v1 = 1
        · subst e1
          clear HB1 HS
          go_wp2_with fail
          refine (pick_any g _ _ _ C1 (by omega)).mono ?_
          rintro e w2 ⟨v2, rfl, hv2, C2, o2⟩
          obtain ⟨M, hM⟩ : ∃ M : Nat, (M : Int) = 6 + v2 := ⟨(6 + v2).toNat, by omega⟩
          have zM : IntKind.i64.wrap (6 + v2) = (M : Int) := by rw [IntWalk.i64_in _ (by omega)]; exact hM.symm
          have hMb : 6 ≤ M ∧ M ≤ 7 := by omega
          have O2 := O1.trans o2
          have hz2 := o2.size
          clear C1 O1 o2 hM hv2
          go_wp2_with fail
          go_loopg [3] 12 (fun gn lv wr => ∃ (k : Nat) (A : Option Addr) (cp : Nat) (T : Nat → Tm) (ck : Nat → Value), k ≤ M ∧ M - k < gn ∧ lv = .slice A k cp ∧ Hid (BdI wr (w.heap.size + 1) (.slice A k cp) k T ck) ∧ Hid (∀ i, i < k → (T i).s.size ≤ 7 ∧ (T i).n ≤ 21) ∧ w.heap.size + 1 ≤ wr.heap.size ∧ Cu wr g (m + 2500) ∧ Only g (g + 1) w wr)
          case atStart => exact ⟨0, none, 0, fun _ => ⟨⟨#[]⟩, 0, 0, 0, fun _ => 0, fun _ => 0⟩, fun _ => .slice none 0 0, by omega, by omega, rfl, BdI.nil _ _ _ _, (fun i hi => absurd hi (Nat.not_lt_zero _)), by omega, C2.more (by omega), O2⟩
          case round =>
            clear C2 O2
            obtain ⟨k, A, cp, T, ck, hk, hgn, rfl, HB, HS, hzw, Cr, Or⟩ := hrel
            by_cases hkm : k < M
            · obtain ⟨s, hs1⟩ : ∃ z, ({ data := #[97, 98, 99, 100, 101, 102, 103] } : ByteArray).extract k (k + 1) = z := ⟨_, rfl⟩
              have hss : s.size ≤ 7 := by rw [← hs1, ByteArray.size_extract]; omega
              have z1 : IntKind.i64.wrap ((k : Int) + 1) = (k : Int) + 1 := IntWalk.i64_in _ (by omega)
              have z2 : ((k : Int) + 1).toNat = k + 1 := by omega
              have HBa := hide (HB.out.alloc (.cells #[.int .i64 0, .int .i64 300] 56))
              have Ca := Cr.alloc (.cells #[.int .i64 0, .int .i64 300] 56)
              have Oa := Or.alloc (.cells #[.int .i64 0, .int .i64 300] 56)
              have hvo : ∀ q, (Value.slice A k cp).ownBlock = some q → q < wr.heap.size := fun q hq => (HB.out.1.lt q hq).2
              have HIa : Hid (IRow (wr.alloc (.cells #[.int .i64 0, .int .i64 300] 56)) wr.heap.size 2 (.slice (some ⟨wr.heap.size, 0, none⟩) 1 1) 1) := by
                have h := World.ownsRow_lit (base := wr.heap.size) (e := 56) (size := 2) wr #[.int .i64 0, .int .i64 300] 1 (by omega) (by unfold maxLen; omega) rfl
                exact IRow.of_own (xs := [.int .i64 0, .int .i64 300]) h (fun u hu => by simp at hu; rcases hu with rfl | rfl <;> rfl)
              clear HB Cr Or
              go_wp2_with (at_builtin; refine wpList_append_two _ rfl _ _ 24 rfl (w.heap.size + 1) 27 ii (.agg #[.string ⟨#[]⟩, .int .i64 0, .int .i64 0, .slice none 0 0]) 4 56 Try.underlying24 hii iz0 iz1 iz2 rfl (by decide) _ _ _ rfl (HBa.out.1.alloc _) ⟨wr.heap.size + 1, 0, none⟩ 1 1 [.string s, .int .i64 68, .int .i64 0, .slice (some ⟨wr.heap.size, 0, none⟩) 1 1] rfl rfl ?_ (four_one s 68 0 (some ⟨wr.heap.size, 0, none⟩) 1 1) (by omega) ?_ ?_ ?_)
              · intro i u hu
                match i, hu with
                | 0, hu => simp at hu; subst hu; simp [go_sem, Addr.add]
                | 1, hu => simp at hu; subst hu; simp [go_sem, Addr.add]
                | 2, hu => simp at hu; subst hu; simp [go_sem, Addr.add]
                | 3, hu => simp at hu; subst hu; simp [go_sem, Addr.add]
              · unfold maxLen; omega
              · omega
              intro v7 w7 hcase
              have hgb : ∃ row, ((wr.alloc (.cells #[.int .i64 0, .int .i64 300] 56)).alloc (.cells #[.string s, .int .i64 68, .int .i64 0, .slice (some ⟨wr.heap.size, 0, none⟩) 1 1] 27)).grownBy w7 row ∧ ∀ q, row = some q → (w.heap.size + 1) ≤ q := by
                rcases hcase with ⟨_, _, r2⟩ | ⟨_, r2⟩
                · exact ⟨_, r2, fun q hq => (HBa.out.1.lt q hq).1⟩
                · exact ⟨_, r2, fun q hq => by cases hq⟩
              obtain ⟨row7, hg7, hrow7⟩ := hgb
              have O7 : Only g (g + 1) w w7 := bdO (Oa.alloc _) hg7 (fun q hq => by have := hrow7 q hq; omega)
              have C7 := bdC (Ca.alloc _) hg7 (fun q hq => by have := hrow7 q hq; omega)
              have HB7 := hide (BdI.push (X := ⟨s, 68, 0, 1, fun _ => 0, fun _ => 0⟩) (HBa.out.alloc _) (HIa.out.alloc _) (by omega) hvo (by simp; omega) (by simp) hcase)
              obtain ⟨A7, c7, rfl⟩ := row_form HB7.out.1
              have HS7 : Hid (∀ i, i < k + 1 → ((fun i => if i < k then T i else ⟨s, 68, 0, 1, fun _ => 0, fun _ => 0⟩ : Nat → Tm) i).s.size ≤ 7 ∧ ((fun i => if i < k then T i else ⟨s, 68, 0, 1, fun _ => 0, fun _ => 0⟩ : Nat → Tm) i).n ≤ 21) := fun i hi => by
                by_cases h : i < k
                · simp only [if_pos h]; exact HS.out i h
                · simp only [if_neg h]; exact ⟨hss, (by omega)⟩
              have hzz : w.heap.size + 1 ≤ w7.heap.size := by have := hg7.size; simp at this; omega
              clear HBa HIa Ca Oa hcase hg7 hrow7 hvo hs1 z1 z2
              go_wp2_with fail
              go_roundg (M - k)
              case measure => omega
              case rel => exact ⟨k + 1, A7, c7, _, _, by omega, by omega, rfl, HB7, HS7, hzz, C7, O7⟩
            · clear hgn
              obtain ⟨T', hT1, hT2⟩ := HB.out.slT
              have HSF : Hid (∀ i, i < k → (T' i).s.size ≤ 7 ∧ (T' i).n ≤ 21) := fun i hi => by
                have h1 := HS.out i hi
                rw [(hT2 i).1, (hT2 i).2]
                exact h1
              obtain ⟨ck2, q1, q2⟩ := hT1
              have HF : Hid (SlT _ w.heap.size _ _ k T') := ⟨ck2, q1.mono (by omega) (Nat.le_refl _), fun i hi => (q2 i hi).mono (by omega) (Nat.le_refl _)⟩
              clear q1 q2 HB HS hT2
              go_wp2_with fail
              go_ret
              exact ⟨_, k, T', rfl, by omega, HSF.out, HF.out, Cr.more (by omega), Or⟩
        · have d1 : (v1 == 1) = false := by simp [e1]
          obtain ⟨T', hT1, hT2⟩ := HB1.out.slT
          have HSF : Hid (∀ i, i < k → (T' i).s.size ≤ 7 ∧ (T' i).n ≤ 21) := fun i hi => by
            have h1 := HS.out i hi
            rw [(hT2 i).1, (hT2 i).2]
            exact h1
          obtain ⟨ck2, q1, q2⟩ := hT1
          have HF : Hid (SlT _ w.heap.size _ _ k T') := ⟨ck2, q1.mono (by omega) (Nat.le_refl _), fun i hi => (q2 i hi).mono (by omega) (Nat.le_refl _)⟩
          clear q1 q2 HB1 HS hT2
          go_wp2_with fail
          go_ret
          exact ⟨_, k, T', rfl, by omega, HSF.out, HF.out, C1.more (by omega), O1⟩

end Go.Proofs.Ytnfhgnibjebmlaa
