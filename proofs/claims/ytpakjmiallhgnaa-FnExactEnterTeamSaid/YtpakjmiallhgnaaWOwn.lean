/-
  Walks: a board copied by the laws' own word: each slice in a block of its own.
-/
import Derived.Test.YtpakjmiallhgnaaPMark
namespace Go.Proofs.Ytpakjmiallhgnaa
set_option linter.unusedVariables false
set_option linter.unusedSimpArgs false
open Go.RowKit

/-- The inner slices of the first k teams: each in a block of its own, from lo on. -/
def Subs (w : World) (lo : Nat) (β : Nat → Nat) (ck : Nat → Value) (T : Nat → Tm) (k : Nat) : Prop :=
  (∀ i, i < k → OwnL w (β i) (β i + 1) 47 2 (ck i) (T i).n ((T i).n * 2) (fun o => iiC (T i).m (T i).b (o / 2) (o % 2)) ∧ lo ≤ β i ∧ β i < w.heap.size) ∧ ∀ i j, i < k → j < k → i ≠ j → β i ≠ β j
section
variable {w w' : World} {lo k : Nat} {β : Nat → Nat} {ck : Nat → Value} {T : Nat → Tm}
theorem Subs.zero (w : World) (lo : Nat) (β : Nat → Nat) (ck : Nat → Value) (T : Nat → Tm) : Subs w lo β ck T 0 := ⟨fun i h => absurd h (Nat.not_lt_zero _), fun i j h => absurd h (Nat.not_lt_zero _)⟩
theorem Subs.keep (h : Subs w lo β ck T k) (hz : w.heap.size ≤ w'.heap.size) (hk : ∀ b, lo ≤ b → b < w.heap.size → w'.heap[b]? = w.heap[b]?) : Subs w' lo β ck T k :=
  ⟨fun i hi => by
    obtain ⟨a, b, c⟩ := h.1 i hi
    exact ⟨a.keep1 (hk _ b c), b, by omega⟩, h.2⟩
theorem Subs.below {B : Nat} (h : Subs w lo β ck T k) (hb : Below B w w') (hB : w.heap.size ≤ B) : Subs w' lo β ck T k := h.keep hb.size fun b _ h2 => hb.block b (by omega)
/-- One more, in a block from where the world ended. -/
theorem Subs.snoc {B : Nat} {u : Value} (h : Subs w lo β ck T k) (hz : ∀ i, i < k → β i < B) {b : Nat} (hb : B ≤ b) (hl : lo ≤ b) (hlt : b < w.heap.size) (ho : OwnL w b (b + 1) 47 2 u (T k).n ((T k).n * 2) (fun o => iiC (T k).m (T k).b (o / 2) (o % 2))) :
    Subs w lo (fun i => if i = k then b else β i) (fun i => if i = k then u else ck i) T (k + 1) := by
  refine ⟨fun i hi => ?_, fun i j hi hj hij => ?_⟩
  · by_cases h1 : i = k
    · subst h1
      simp only [if_true]
      exact ⟨ho, hl, hlt⟩
    · simp only [h1, if_false]
      exact h.1 i (by omega)
  · by_cases h1 : i = k
    · have h2 : ¬ j = k := by omega
      have := hz j (by omega)
      simp only [h1, h2, if_true, if_false]
      omega
    · by_cases h2 : j = k
      · have := hz i (by omega)
        simp only [h1, h2, if_true, if_false]
        omega
      · simp only [h1, h2, if_false]
        exact h.2 i j (by omega) (by omega) hij
theorem Subs.ownT {γ lo' hi n : Nat} {v : Value} (h : Subs w lo β ck T n) (ho : OwnL w γ (γ + 1) 40 4 v n (n * 4) (fun o => tC T ck (o / 4) (o % 4))) (hne : ∀ i, i < n → β i ≠ γ) (hg : 0 < n → lo' ≤ γ ∧ γ < hi) (hl : lo' ≤ lo) (hh : w.heap.size ≤ hi) : OwnT w lo' hi v n T :=
  ⟨γ, β, ck, ⟨ho, fun i hi => (h.1 i hi).1, hne, h.2⟩, hg, fun i hi => by
    obtain ⟨_, a, b⟩ := h.1 i hi
    omega⟩
end
set_option maxRecDepth 100000 in
set_option maxHeartbeats 3200000 in
theorem toTeamS_own (T : Nat → Tm) (n lo hi : Nat) (v : Value) (w : World) (hv : SlT w lo hi v n T) (hhi : hi ≤ w.heap.size) (hf : tfits T n) :
    Calls Try.prog 12 #[v] w fun e w' => ∃ v', e = .returned v' ∧ OwnT w' w.heap.size w'.heap.size v' n T ∧ Below w.heap.size w w' := by
  obtain ⟨A, cap, rfl, hcap⟩ := hv.open_
  obtain ⟨hn, hfit⟩ := hf
  obtain ⟨i0, hi0, iz0, iz1, iz2⟩ := info_parts infoTeam
  go_enter Try.func12, Try.ntmps12
  go_wp2_with (at_make; refine wpList_make_full _ rfl (.tmp 6) (.tmp 6) 24 rfl w.heap.size 40 i0 _ 4 Try.underlying24 hi0 iz0 iz1 .i64 .i64 n n n rfl rfl rfl rfl (by rw [iz2]; omega) (by unfold maxLen; omega) (Nat.le_refl _) ?_; intro w1 hown1 hg1)
  have hlt1 : w.heap.size < w1.heap.size := (hown1.lt _ rfl).2
  have hb1 : Below w.heap.size w w1 := (Below.refl _ _).grown hg1 (Nat.le_refl _) (fun k h => by cases h)
  have ho1 : Own w1 w.heap.size (w.heap.size + 1) 40 4 (.slice (some ⟨w.heap.size, 0, none⟩) n n) n 0 (tC T fun _ => .slice none 0 0) := ⟨_, hown1, fun g hg => by cases hg; exact Nat.lt_succ_self _, fun i j h => absurd h (by omega)⟩
  clear hown1 hg1
  go_loopw [4] (fun i wr => ∃ (k : Nat) (β : Nat → Nat) (ck : Nat → Value), k ≤ n ∧ i = .int .i64 k ∧ Own wr w.heap.size (w.heap.size + 1) 40 4 (.slice (some ⟨w.heap.size, 0, none⟩) n n) n k (tC T ck) ∧ Hid (Subs wr (w.heap.size + 1) β ck T k) ∧ Below w.heap.size w wr ∧ w.heap.size < wr.heap.size) (fun i _ => n - (intOf i).toNat)
  case atStart => exact ⟨0, fun _ => 0, _, by omega, rfl, ho1, Subs.zero _ _ _ _ _, hb1, hlt1⟩
  case round =>
    obtain ⟨k, β, ck, hk, rfl, ho, hck, hb, hlt⟩ := hrel
    by_cases hkn : k < n
    · obtain ⟨blk, off, dk, rfl, h1, h2, h3⟩ := (hv.below hb hhi).at_ (by omega) (by omega)
      obtain ⟨t1, t2, t3, t4, t5, t6, t7⟩ := h3 k hkn
      clear h3
      have HC := hide (hfit k hkn)
      obtain ⟨Ak, ckk, ek, _, _⟩ := t6.open_
      rw [ek] at t5 t6
      clear ek
      have T6 := hide t6
      clear t6
      go_wp2_with fail
      refine (toTeam_big (T k) lo hi _ _ (T6.out.below (B := wr.heap.size) (by repeat (first | (with_reducible exact Below.refl _ _) | (with_reducible refine below_ov ?_ ?_) | (with_reducible refine Below.setCell ?_ ?_ _) | (with_reducible refine Below.alloc ?_ ?_ _) | (with_reducible refine Below.drew ?_) | (with_reducible refine below_drewN ?_ _) | (refine Below.trans ?_ (Below.mono ‹Below _ _ _› (by first | omega | (simp; done) | (simp; omega)))) | exact Below.refl _ _ | omega | (focus (simp; done)) | (focus (simp; omega)))) (by omega)) (by first | omega | (simp; done) | (simp; omega)) HC.out).mono ?_
      rintro e w2 ⟨u, rfl, hou, hgr2, hb2⟩
      have hz2 := hb2.size
      (try (simp at hz2))
      (try (simp at hgr2))
      obtain ⟨Au, cu, rfl, hcu, _⟩ := hou.sl.open_
      have ho2 := ((ho.below hb2 (by omega)).congr (c' := tC T (fun i => if i = k then .slice Au (T k).n cu else ck i)) tC_upd)
      obtain ⟨x0, hx0⟩ := ho2.has (o := k * 4) (by omega)
      have g0 := ho2.free (k * 4)
      obtain ⟨x1, hx1⟩ := ho2.has (o := k * 4 + 1) (by omega)
      have g1 := ho2.free (k * 4 + 1)
      obtain ⟨x2, hx2⟩ := ho2.has (o := k * 4 + 2) (by omega)
      have g2 := ho2.free (k * 4 + 2)
      obtain ⟨x3, hx3⟩ := ho2.has (o := k * 4 + 3) (by omega)
      have g3 := ho2.free (k * 4 + 3)
      have st := ho2.store4 hkn
      rw [show tC T (fun i => if i = k then .slice Au (T k).n cu else ck i) k 0 = .string (T k).s from rfl, show tC T (fun i => if i = k then .slice Au (T k).n cu else ck i) k 1 = .int .i64 (T k).v from rfl, show tC T (fun i => if i = k then .slice Au (T k).n cu else ck i) k 2 = .int .i64 (T k).y from rfl, show tC T (fun i => if i = k then .slice Au (T k).n cu else ck i) k 3 = .slice Au (T k).n cu from by simp [tC]] at st
      have HS := hide st
      have HU := hide hou
      clear st hou ho2 ho
      go_wp2_with fail
      go_roundw
      case rel =>
        obtain ⟨b, hb0, hb9, hOL⟩ := (HU.out.lf (by omega)).pin (by omega)
        refine ⟨k + 1, _, _, by omega, by go_num, HS.out, Subs.snoc (B := wr.heap.size) (b := b) ((hck.out.below hb2 (by omega)).keep (by simp [World.setCell]) fun x hx _ => ?_) (fun i hi => (hck.out.1 i hi).2.2) (by omega) (by omega) (by simp [World.setCell]; omega) (hOL.keep1 ?_), (by repeat (first | (with_reducible exact Below.refl _ _) | (with_reducible refine below_ov ?_ ?_) | (with_reducible refine Below.setCell ?_ ?_ _) | (with_reducible refine Below.alloc ?_ ?_ _) | (with_reducible refine Below.drew ?_) | (with_reducible refine below_drewN ?_ _) | (refine Below.trans ?_ (Below.mono ‹Below _ _ _› (by first | omega | (simp; done) | (simp; omega)))) | exact Below.refl _ _ | omega | (focus (simp; done)) | (focus (simp; omega)))), by simp; omega⟩
        all_goals
          repeat (refine (Deep.blk_setCell_other _ _ _ _ (by show _ ≠ w.heap.size; omega)).trans ?_)
          rfl
      case measure => simp [intOf]; omega
    · obtain rfl : k = n := by omega
      go_wp2_with fail
      go_ret
      exact ⟨_, rfl, hck.out.ownT (ho.lf (by omega)) (fun i hi => by have := hck.out.1 i hi; omega) (fun _ => ⟨Nat.le_refl _, by omega⟩) (by omega) (Nat.le_refl _), hb⟩

end Go.Proofs.Ytpakjmiallhgnaa
