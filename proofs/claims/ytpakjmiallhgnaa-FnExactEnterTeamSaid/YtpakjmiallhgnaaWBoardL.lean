/-
  Walks: the laws' own words on boards: copies, sizes, comparisons.
-/
import Derived.Test.YtpakjmiallhgnaaWBoard
import Derived.Test.YtpakjmiallhgnaaWTmL
namespace Go.Proofs.Ytpakjmiallhgnaa
set_option linter.unusedVariables false
set_option linter.unusedSimpArgs false
open Go.RowKit

theorem tC_upd {T : Nat → Tm} {ck : Nat → Value} {u : Value} {k : Nat} : ∀ i j, i < k → j < 4 → tC T ck i j = tC T (fun i => if i = k then u else ck i) i j := by
  intro i j hi _
  have : ¬ i = k := by omega
  simp [tC, this]
theorem SlT.mono {w : World} {lo hi lo' hi' n : Nat} {v : Value} {T : Nat → Tm} (h : SlT w lo hi v n T) (h1 : lo' ≤ lo) (h2 : hi ≤ hi') : SlT w lo' hi' v n T := by
  obtain ⟨ck, a, b⟩ := h
  exact ⟨ck, a.mono h1 h2, fun i hi => (b i hi).mono h1 h2⟩
theorem Sl.aside {w : World} {lo hi sz n : Nat} {v : Value} {c : Nat → Nat → Value} (h : Sl w lo hi sz v n c) {a : Addr} (ha : a.block < lo) (u : Value) : Sl (w.setCell a u) lo hi sz v n c :=
  h.keep fun b h1 h2 => Deep.blk_setCell_other _ _ _ _ (by omega)
theorem infoTeam : (Try.prog.info? 40).map (fun i => (i.zero, i.size, i.bytes)) = some (some (.agg #[.string ⟨#[]⟩, .int .i64 0, .int .i64 0, .slice none 0 0]), 4, 56) := by kernel_rfl
set_option maxRecDepth 100000 in
set_option maxHeartbeats 3200000 in
theorem toTeamS_any (T : Nat → Tm) (n lo hi : Nat) (v : Value) (w : World) (hv : SlT w lo hi v n T) (hhi : hi ≤ w.heap.size) (hf : tfits T n) :
    Calls Try.prog 12 #[v] w fun e w' => ∃ v', e = .returned v' ∧ SlT w' w.heap.size w'.heap.size v' n T ∧ Below w.heap.size w w' := by
  obtain ⟨A, cap, rfl, hcap⟩ := hv.open_
  obtain ⟨hn, hfit⟩ := hf
  obtain ⟨i0, hi0, iz0, iz1, iz2⟩ := info_parts infoTeam
  go_enter Try.func12, Try.ntmps12
  go_wp2_with (at_make; refine wpList_make_full _ rfl (.tmp 6) (.tmp 6) 24 rfl w.heap.size 40 i0 _ 4 Try.underlying24 hi0 iz0 iz1 .i64 .i64 n n n rfl rfl rfl rfl (by rw [iz2]; omega) (by unfold maxLen; omega) (Nat.le_refl _) ?_; intro w1 hown1 hg1)
  have hlt1 : w.heap.size < w1.heap.size := (hown1.lt _ rfl).2
  have hb1 : Below w.heap.size w w1 := (Below.refl _ _).grown hg1 (Nat.le_refl _) (fun k h => by cases h)
  have ho1 : Own w1 w.heap.size (w.heap.size + 1) 40 4 (.slice (some ⟨w.heap.size, 0, none⟩) n n) n 0 (tC T fun _ => .slice none 0 0) := ⟨_, hown1, fun g hg => by cases hg; exact Nat.lt_succ_self _, fun i j h => absurd h (by omega)⟩
  clear hown1 hg1
  go_loopw [4] (fun i wr => ∃ (k : Nat) (ck : Nat → Value), k ≤ n ∧ i = .int .i64 k ∧ Own wr w.heap.size (w.heap.size + 1) 40 4 (.slice (some ⟨w.heap.size, 0, none⟩) n n) n k (tC T ck) ∧ Hid (∀ i, i < k → Sl wr (w.heap.size + 1) wr.heap.size 2 (ck i) (T i).n (iiC (T i).m (T i).b)) ∧ Below w.heap.size w wr ∧ w.heap.size < wr.heap.size) (fun i _ => n - (intOf i).toNat)
  case atStart => exact ⟨0, _, by omega, rfl, ho1, fun i h => absurd h (Nat.not_lt_zero _), hb1, hlt1⟩
  case round =>
    obtain ⟨k, ck, hk, rfl, ho, hck, hb, hlt⟩ := hrel
    by_cases hkn : k < n
    · obtain ⟨blk, off, dk, rfl, h1, h2, h3⟩ := (hv.below hb hhi).at_ (by omega) (by omega)
      obtain ⟨t1, t2, t3, t4, t5, t6, t7⟩ := h3 k hkn
      clear h3
      have HC := hide (hfit k hkn)
      obtain ⟨Ak, ckk, ek, _, _⟩ := t6.open_
      rw [ek] at t5 t6
      clear ek
      have T6 := hide t6
      clear t6
      go_wp2_with fail
      refine (toTeam_any (T k) lo hi _ _ (T6.out.below (B := wr.heap.size) (by repeat (first | (with_reducible exact Below.refl _ _) | (with_reducible refine below_ov ?_ ?_) | (with_reducible refine Below.setCell ?_ ?_ _) | (with_reducible refine Below.alloc ?_ ?_ _) | (with_reducible refine Below.drew ?_) | (with_reducible refine below_drewN ?_ _) | (refine Below.trans ?_ (Below.mono ‹Below _ _ _› (by first | omega | (simp; done) | (simp; omega)))) | exact Below.refl _ _ | omega | (focus (simp; done)) | (focus (simp; omega)))) (by omega)) (by first | omega | (simp; done) | (simp; omega)) HC.out).mono ?_
      rintro e w2 ⟨u, rfl, hou, hb2⟩
      have hz2 := hb2.size
      (try (simp at hz2))
      obtain ⟨Au, cu, rfl, hcu, _⟩ := hou.sl.open_
      have ho2 := ((ho.below hb2 (by omega)).congr (c' := tC T (fun i => if i = k then .slice Au (T k).n cu else ck i)) tC_upd)
      obtain ⟨x0, hx0⟩ := ho2.has (o := k * 4) (by omega)
      have g0 := ho2.free (k * 4)
      obtain ⟨x1, hx1⟩ := ho2.has (o := k * 4 + 1) (by omega)
      have g1 := ho2.free (k * 4 + 1)
      obtain ⟨x2, hx2⟩ := ho2.has (o := k * 4 + 2) (by omega)
      have g2 := ho2.free (k * 4 + 2)
      obtain ⟨x3, hx3⟩ := ho2.has (o := k * 4 + 3) (by omega)
      have g3 := ho2.free (k * 4 + 3)
      have st := ho2.store4 hkn
      rw [show tC T (fun i => if i = k then .slice Au (T k).n cu else ck i) k 0 = .string (T k).s from rfl, show tC T (fun i => if i = k then .slice Au (T k).n cu else ck i) k 1 = .int .i64 (T k).v from rfl, show tC T (fun i => if i = k then .slice Au (T k).n cu else ck i) k 2 = .int .i64 (T k).y from rfl, show tC T (fun i => if i = k then .slice Au (T k).n cu else ck i) k 3 = .slice Au (T k).n cu from by simp [tC]] at st
      have HS := hide st
      have HU := hide hou
      clear st hou ho2 ho
      go_wp2_with fail
      go_roundw
      case rel =>
        refine ⟨k + 1, _, by omega, by go_num, HS.out, fun i hi => ?_, (by repeat (first | (with_reducible exact Below.refl _ _) | (with_reducible refine below_ov ?_ ?_) | (with_reducible refine Below.setCell ?_ ?_ _) | (with_reducible refine Below.alloc ?_ ?_ _) | (with_reducible refine Below.drew ?_) | (with_reducible refine below_drewN ?_ _) | (refine Below.trans ?_ (Below.mono ‹Below _ _ _› (by first | omega | (simp; done) | (simp; omega)))) | exact Below.refl _ _ | omega | (focus (simp; done)) | (focus (simp; omega)))), by simp; omega⟩
        refine Sl.aside (Sl.aside (Sl.aside (Sl.aside ?_ (by show w.heap.size < _; omega) _) (by show w.heap.size < _; omega) _) (by show w.heap.size < _; omega) _) (by show w.heap.size < _; omega) _
        rcases Nat.lt_or_ge i k with h8 | h8
        · have : ¬ i = k := by omega
          simp only [this, if_false]
          exact ((hck.out i h8).below hb2 (Nat.le_refl _)).mono (Nat.le_refl _) (by simp [World.setCell]; omega)
        · obtain rfl : i = k := by omega
          simp only [if_true]
          exact HU.out.sl.mono (by omega) (by simp [World.setCell])
      case measure => simp [intOf]; omega
    · obtain rfl : k = n := by omega
      go_wp2_with fail
      go_ret
      exact ⟨_, rfl, ⟨ck, (ho.mono (Nat.le_refl _) (by omega)).sl, fun i hi => (hck.out i hi).mono (by omega) (Nat.le_refl _)⟩, hb⟩

def szTK (left : Int) (T : Nat → Tm) : Nat → Int
  | 0 => left
  | k + 1 => if szTK left T k < 0 then -1 else szTF (szTK left T k) (T k)
def szTS (left : Int) (T : Nat → Tm) (n : Nat) : Int := if left < n then -1 else szTK (left - n) T n
theorem szTK_le {left : Int} {T : Nat → Tm} (h : 0 ≤ left) : ∀ k, -1 ≤ szTK left T k ∧ szTK left T k ≤ left
  | 0 => by simp only [szTK]; omega
  | k + 1 => by
    have ih := szTK_le (T := T) h k
    simp only [szTK]
    split
    · omega
    · have := szTF_le (T := T k) (left := szTK left T k) (by omega)
      omega
theorem szTK_neg {left : Int} {T : Nat → Tm} {k n : Nat} (h : szTK left T k < 0) (hk : k < n) : szTK left T n = -1 := by
  induction n with
  | zero => omega
  | succ n ih =>
    simp only [szTK]
    rcases Nat.lt_or_ge k n with h1 | h1
    · rw [ih h1]; rfl
    · obtain rfl : k = n := by omega
      rw [if_pos h]
theorem szTK_fit {left : Int} {T : Nat → Tm} {n i : Nat} (hl : 0 ≤ left) (hl' : left ≤ 1048576) (h : 0 ≤ szTK left T n) (hi : i < n) : (T i).n ≤ 1048576 := by
  have h1 : 0 ≤ szTK left T (i + 1) := by
    rcases Nat.lt_or_ge (i + 1) n with h2 | h2
    · by_cases h3 : szTK left T (i + 1) < 0
      · have := szTK_neg h3 h2; omega
      · omega
    · obtain rfl : n = i + 1 := by omega
      exact h
  rw [szTK] at h1
  split at h1
  · omega
  · have := szTF_n h1
    have := (szTK_le (T := T) hl i).2
    omega
def tsome (T : Nat → Tm) (n : Nat) : Prop := n ≤ 9223372036854775807 ∧ ∀ i, i < n → (T i).some
theorem szTS_fits {T : Nat → Tm} {n : Nat} (hs : tsome T n) (h : 0 ≤ szTS 1048576 T n) : tfits T n := by
  unfold szTS at h
  split at h
  · omega
  · exact ⟨by omega, fun i hi => ⟨(hs.2 i hi).1, szTK_fit (left := 1048576 - n) (by omega) (by omega) h hi⟩⟩
set_option maxRecDepth 100000 in
set_option maxHeartbeats 1600000 in
theorem szTeamS_any (T : Nat → Tm) (n : Nat) (left : Int) (lo hi : Nat) (v : Value) (w : World) (hv : SlT w lo hi v n T) (hhi : hi ≤ w.heap.size) (hl : 0 ≤ left) (hl' : left ≤ 1048576) (hf : tsome T n) :
    Calls Try.prog 10 #[v, .int .i64 left] w fun e w' => e = .returned (.int .i64 (szTS left T n)) ∧ Below w.heap.size w w' := by
  obtain ⟨A, cap, rfl, hcap⟩ := hv.open_
  obtain ⟨hn, hsz⟩ := hf
  by_cases h : left < n
  · have hd : decide (left - (n : Int) < 0) = true := by simp; omega
    go_enter Try.func10, Try.ntmps10
    go_wp2_with fail
    go_ret
    exact ⟨ret_int (by rw [szTS, if_pos h]), (by repeat (first | (with_reducible exact Below.refl _ _) | (with_reducible refine below_ov ?_ ?_) | (with_reducible refine Below.setCell ?_ ?_ _) | (with_reducible refine Below.alloc ?_ ?_ _) | (with_reducible refine Below.drew ?_) | (with_reducible refine below_drewN ?_ _) | (refine Below.trans ?_ (Below.mono ‹Below _ _ _› (by first | omega | (simp; done) | (simp; omega)))) | exact Below.refl _ _ | omega | (focus (simp; done)) | (focus (simp; omega))))⟩
  · have hd : decide (left - (n : Int) < 0) = false := by simp; omega
    have HM : Hid (szTS left T n = szTK (left - n) T n) := by show _ = _; rw [szTS, if_neg h]
    go_enter Try.func10, Try.ntmps10
    go_wp2_with fail
    go_loopw [1, 5] (fun x i wr => ∃ k : Nat, k ≤ n ∧ i = .int .i64 k ∧ x = .int .i64 (szTK (left - n) T k) ∧ 0 ≤ szTK (left - n) T k ∧ Below w.heap.size w wr) (fun _ i _ => n - (intOf i).toNat)
    case atStart => exact ⟨0, by omega, rfl, rfl, by simp only [szTK]; omega, Below.refl _ _⟩
    case round =>
      obtain ⟨k, hk, rfl, rfl, h0, hb⟩ := hrel
      have hzr := hb.size
      have hle := szTK_le (left := left - n) (T := T) (by omega) k
      by_cases hkn : k < n
      · obtain ⟨blk, off, dk, rfl, h1, h2, h3⟩ := (hv.below hb hhi).at_ (by omega) (by omega)
        obtain ⟨t1, t2, t3, t4, t5, t6, t7⟩ := h3 k hkn
        clear h3
        have HC := hide (hsz k hkn)
        obtain ⟨Ak, ckk, ek, _, _⟩ := t6.open_
        rw [ek] at t5 t6
        clear ek
        have T6 := hide t6
        clear t6
        have hs : Hid (szTK (left - n) T (k + 1) = szTF (szTK (left - n) T k) (T k)) := by show szTK _ _ (k + 1) = _; rw [szTK, if_neg (by omega)]
        go_wp2_with fail
        refine (szTeam_any (T k) _ lo hi _ _ (T6.out.below (B := wr.heap.size) (by repeat (first | (with_reducible exact Below.refl _ _) | (with_reducible refine below_ov ?_ ?_) | (with_reducible refine Below.setCell ?_ ?_ _) | (with_reducible refine Below.alloc ?_ ?_ _) | (with_reducible refine Below.drew ?_) | (with_reducible refine below_drewN ?_ _) | (refine Below.trans ?_ (Below.mono ‹Below _ _ _› (by first | omega | (simp; done) | (simp; omega)))) | exact Below.refl _ _ | omega | (focus (simp; done)) | (focus (simp; omega)))) (by omega)) h0 (by omega) HC.out).mono ?_
        rintro e w1 ⟨rfl, hb1⟩
        have hz1 := hb1.size
        rw [← hs.out]
        cases hd2 : decide (szTK (left - n) T (k + 1) < 0) with
        | true =>
          have HE : Hid (szTS left T n = -1) := by
            show _ = _
            have h5 := of_decide_eq_true hd2
            rw [HM.out]
            rcases Nat.lt_or_ge (k + 1) n with h6 | h6
            · exact szTK_neg h5 h6
            · obtain h7 : k + 1 = n := by omega
              have := (szTK_le (left := left - n) (T := T) (by omega) (k + 1)).1
              have h9 := congrArg (szTK (left - n) T) h7
              omega
          go_wp2_with fail
          go_ret
          exact ⟨ret_int HE.out.symm, (by repeat (first | (with_reducible exact Below.refl _ _) | (with_reducible refine below_ov ?_ ?_) | (with_reducible refine Below.setCell ?_ ?_ _) | (with_reducible refine Below.alloc ?_ ?_ _) | (with_reducible refine Below.drew ?_) | (with_reducible refine below_drewN ?_ _) | (refine Below.trans ?_ (Below.mono ‹Below _ _ _› (by first | omega | (simp; done) | (simp; omega)))) | exact Below.refl _ _ | omega | (focus (simp; done)) | (focus (simp; omega))))⟩
        | false =>
          have h5 := of_decide_eq_false hd2
          go_wp2_with fail
          go_roundw
          case rel => exact ⟨k + 1, by omega, by go_num, rfl, by omega, (by repeat (first | (with_reducible exact Below.refl _ _) | (with_reducible refine below_ov ?_ ?_) | (with_reducible refine Below.setCell ?_ ?_ _) | (with_reducible refine Below.alloc ?_ ?_ _) | (with_reducible refine Below.drew ?_) | (with_reducible refine below_drewN ?_ _) | (refine Below.trans ?_ (Below.mono ‹Below _ _ _› (by first | omega | (simp; done) | (simp; omega)))) | exact Below.refl _ _ | omega | (focus (simp; done)) | (focus (simp; omega))))⟩
          case measure => simp [intOf]; omega
      · obtain rfl : k = n := by omega
        go_wp2_with fail
        go_ret
        exact ⟨ret_int HM.out.symm, hb⟩
set_option maxRecDepth 100000 in
set_option maxHeartbeats 1600000 in
theorem eqTeamS_same (T : Nat → Tm) (n lo hi lo' hi' : Nat) (v v' : Value) (w : World) (hv : SlT w lo hi v n T) (hv' : SlT w lo' hi' v' n T) (hhi : hi ≤ w.heap.size) (hhi' : hi' ≤ w.heap.size) (hf : tfits T n) :
    Calls Try.prog 14 #[v, v'] w fun e w' => e = .returned (.bool true) ∧ Below w.heap.size w w' := by
  obtain ⟨A, cap, rfl, hcap⟩ := hv.open_
  obtain ⟨A', cap', rfl, hcap'⟩ := hv'.open_
  obtain ⟨hn, hfit⟩ := hf
  go_enter Try.func14, Try.ntmps14
  go_wp2_with fail
  go_loopw [5] (fun i wr => ∃ k : Nat, k ≤ n ∧ i = .int .i64 k ∧ Below w.heap.size w wr) (fun i _ => n - (intOf i).toNat)
  case atStart => exact ⟨0, by omega, rfl, Below.refl _ _⟩
  case round =>
    obtain ⟨k, hk, rfl, hb⟩ := hrel
    have hzr := hb.size
    by_cases hkn : k < n
    · obtain ⟨blk, off, dk, rfl, h1, h2, h3⟩ := (hv.below hb hhi).at_ (by omega) (by omega)
      obtain ⟨blk', off', dk', rfl, h1', h2', h3'⟩ := (hv'.below hb hhi').at_ (by omega) (by omega)
      obtain ⟨t1, t2, t3, t4, t5, t6, t7⟩ := h3 k hkn
      obtain ⟨u1, u2, u3, u4, u5, u6, u7⟩ := h3' k hkn
      clear h3 h3'
      have HC := hide (hfit k hkn)
      have T6 := hide t6
      have U6 := hide u6
      clear t6 u6
      have g1 : blk < wr.heap.size := by omega
      have g2 : blk' < wr.heap.size := by omega
      go_wp2_with fail
      (refine wp_region_below_lit (by kernel_rfl) (by kernel_rfl) ?_; (repeat (first | go_big_quiet_step ((go_at_call 47; exact quiet_ov (eqTeam_same (T k) lo hi lo' hi' _ _ _ (T6.out.below (B := wr.heap.size) (by repeat (first | (with_reducible exact Below.refl _ _) | (with_reducible refine below_ov ?_ ?_) | (with_reducible refine Below.setCell ?_ ?_ _) | (with_reducible refine Below.alloc ?_ ?_ _) | (with_reducible refine Below.drew ?_) | (with_reducible refine below_drewN ?_ _) | (refine Below.trans ?_ (Below.mono ‹Below _ _ _› (by first | omega | (simp; done) | (simp; omega)))) | exact Below.refl _ _ | omega | (focus (simp; done)) | (focus (simp; omega)))) (by omega)) (U6.out.below (B := wr.heap.size) (by repeat (first | (with_reducible exact Below.refl _ _) | (with_reducible refine below_ov ?_ ?_) | (with_reducible refine Below.setCell ?_ ?_ _) | (with_reducible refine Below.alloc ?_ ?_ _) | (with_reducible refine Below.drew ?_) | (with_reducible refine below_drewN ?_ _) | (refine Below.trans ?_ (Below.mono ‹Below _ _ _› (by first | omega | (simp; done) | (simp; omega)))) | exact Below.refl _ _ | omega | (focus (simp; done)) | (focus (simp; omega)))) (by omega)) (by simp [ov]; omega) (by simp [ov]; omega) HC.out))) | quiet_step ((go_at_call 47; exact quiet_ov (eqTeam_same (T k) lo hi lo' hi' _ _ _ (T6.out.below (B := wr.heap.size) (by repeat (first | (with_reducible exact Below.refl _ _) | (with_reducible refine below_ov ?_ ?_) | (with_reducible refine Below.setCell ?_ ?_ _) | (with_reducible refine Below.alloc ?_ ?_ _) | (with_reducible refine Below.drew ?_) | (with_reducible refine below_drewN ?_ _) | (refine Below.trans ?_ (Below.mono ‹Below _ _ _› (by first | omega | (simp; done) | (simp; omega)))) | exact Below.refl _ _ | omega | (focus (simp; done)) | (focus (simp; omega)))) (by omega)) (U6.out.below (B := wr.heap.size) (by repeat (first | (with_reducible exact Below.refl _ _) | (with_reducible refine below_ov ?_ ?_) | (with_reducible refine Below.setCell ?_ ?_ _) | (with_reducible refine Below.alloc ?_ ?_ _) | (with_reducible refine Below.drew ?_) | (with_reducible refine below_drewN ?_ _) | (refine Below.trans ?_ (Below.mono ‹Below _ _ _› (by first | omega | (simp; done) | (simp; omega)))) | exact Below.refl _ _ | omega | (focus (simp; done)) | (focus (simp; omega)))) (by omega)) (by simp [ov]; omega) (by simp [ov]; omega) HC.out))))); refine wpQuiet_nil ?_; intro w1 hb1; have hz1 := hb1.size; (try (simp at hz1)); obtain ⟨hcw1, hfw1⟩ := bcell hb1; (try (have hy1 : w.heap.size < w1.heap.size := by omega)); (try (have hyy1 : w.heap.size + 1 < w1.heap.size := by omega)))
      go_wp2
      go_roundw
      case rel => exact ⟨k + 1, by omega, by go_num, (by repeat (first | (with_reducible exact Below.refl _ _) | (with_reducible refine below_ov ?_ ?_) | (with_reducible refine Below.setCell ?_ ?_ _) | (with_reducible refine Below.alloc ?_ ?_ _) | (with_reducible refine Below.drew ?_) | (with_reducible refine below_drewN ?_ _) | (refine Below.trans ?_ (Below.mono ‹Below _ _ _› (by first | omega | (simp; done) | (simp; omega)))) | exact Below.refl _ _ | omega | (focus (simp; done)) | (focus (simp; omega))))⟩
      case measure => simp [intOf]; omega
    · obtain rfl : k = n := by omega
      go_wp2_with fail
      go_ret
      exact ⟨rfl, hb⟩
set_option maxHeartbeats 800000 in
theorem IsBoard_impl (T : Nat → Tm) (n lo hi : Nat) (v : Value) (w : World) (hv : SlT w lo hi v n T) (hhi : hi ≤ w.heap.size) (hf : tfits T n) :
    Calls Try.prog 51 #[v] w fun e w' => e = .returned (.bool (bdB T n)) ∧ Below w.heap.size w w' := by
  go_enter Try.func51, Try.ntmps51
  go_wp2_with (go_at_call 64; refine (isBoard_any T n lo hi _ _ hv hhi hf).mono ?_; rintro e w1 ⟨rfl, hb1⟩; have hz1 := hb1.size; (try (simp at hz1)); obtain ⟨hcw1, hfw1⟩ := bcell hb1; (try (have hy1 : w.heap.size < w1.heap.size := by omega)); (try (have hyy1 : w.heap.size + 1 < w1.heap.size := by omega)); (try (have hyyy1 : w.heap.size + 1 + 1 < w1.heap.size := by omega)))
  go_ret
  exact ⟨rfl, (by repeat (first | (with_reducible exact Below.refl _ _) | (with_reducible refine below_ov ?_ ?_) | (with_reducible refine Below.setCell ?_ ?_ _) | (with_reducible refine Below.alloc ?_ ?_ _) | (with_reducible refine Below.drew ?_) | (with_reducible refine below_drewN ?_ _) | (refine Below.trans ?_ (Below.mono ‹Below _ _ _› (by first | omega | (simp; done) | (simp; omega)))) | exact Below.refl _ _ | omega | (focus (simp; done)) | (focus (simp; omega))))⟩

end Go.Proofs.Ytpakjmiallhgnaa
