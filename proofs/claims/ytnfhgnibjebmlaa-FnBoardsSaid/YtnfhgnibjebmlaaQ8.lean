/-
  Texts of this proof, one behind the other (part 8).
-/
import Derived.Test.YtnfhgnibjebmlaaQ7
import Derived.Lib.SliceRun
import Derived.Deep.RegionLaw
/-
  Walks: copies of a board that share no memory.-/
namespace Go.Proofs.Ytnfhgnibjebmlaa
set_option linter.unusedVariables false
set_option linter.unusedSimpArgs false
open Go.RowKit

section
variable {w w' : World} {lo lo' k n : Nat} {β : Nat → Nat} {ck : Nat → Value} {T : Nat → Tm} {v : Value} {xs : List Value}
theorem Subs.keepB (h : Subs w lo β ck T k) (hz : w.heap.size ≤ w'.heap.size) (hk : ∀ i, i < k → w'.heap[β i]? = w.heap[β i]?) : Subs w' lo β ck T k :=
  ⟨fun i hi => by
    obtain ⟨a, b, c⟩ := h.1 i hi
    exact ⟨a.keep1 (hk _ hi), b, by omega⟩, h.2⟩
/-- An inner slice does not lie in the outer one's block. -/
theorem Subs.apart (h : Subs w lo β ck T k) (hn : ∀ i, i < k → 0 < (T i).n) (ho : w.ownsRow lo' 27 4 v n xs) {g : Nat} (hg : v.ownBlock = some g) : ∀ i, i < k → β i ≠ g := fun i hi e => by
  obtain ⟨a, _, _⟩ := h.1 i hi
  rcases a with ⟨h0, _⟩ | ⟨g1, cap, ys, h0, h1, h2, h3, ⟨_, h4⟩, _⟩
  · have := hn i hi; omega
  obtain rfl : g1 = β i := by omega
  rcases h4 with ⟨h4, _⟩ | ⟨x, _, cur, he, _, hh, _⟩
  · rw [h0] at h4; cases h4
  rw [h0] at he
  injection he with e1 _ _
  injection e1 with e1
  injection e1 with e1
  rcases ho.2 with ⟨h5, _⟩ | ⟨y, _, cur', he', _, hh', _⟩
  · rw [h5] at hg; cases hg
  rw [he'] at hg
  injection hg with hg
  have hg : y = g := hg
  rw [← e1] at hh
  rw [hg, ← e] at hh'
  rw [hh] at hh'
  injection hh' with hh'
  injection hh' with _ e3 _
  exact absurd e3 (by decide)
theorem rowL_tm {T : Nat → Tm} {ck : Nat → Value} {k : Nat} (u : Value) : rowL (tC T ck) 4 k ++ [.string (T k).s, .int .i64 (T k).v, .int .i64 (T k).y, u] = rowL (tC T (fun i => if i = k then u else ck i)) 4 (k + 1) := by
  rw [rowL]
  congr 1
  · exact rowL_congr fun i j hi hj => tC_upd i j hi hj
  · simp [List.range, List.range.loop, tC]
/-- The end of a copy: a board of the call's own. -/
theorem Subs.board (h : Subs w lo β ck T n) (hn : ∀ i, i < n → 0 < (T i).n) (ho : w.ownsRow lo 27 4 v n (rowL (tC T ck) 4 n)) : OwnT w lo w.heap.size v n T := by
  have h1 := (own_row ho).lf (by omega)
  rcases Nat.eq_zero_or_pos n with h0 | h0
  · subst h0
    obtain ⟨A, cap, rfl⟩ := row_form ho
    exact h.ownT (γ := 0) (.inl ⟨rfl, A, cap, rfl⟩) (fun i hi => absurd hi (Nat.not_lt_zero _)) (fun h => absurd h (Nat.lt_irrefl _)) (Nat.le_refl _) (Nat.le_refl _)
  · have hlt : lo < w.heap.size := by
      have := (h.1 0 h0).2
      omega
    obtain ⟨γ, g1, g2, g3⟩ := h1.pin hlt
    exact h.ownT g3 (fun i hi => OwnL.apart (h.1 i hi).1 g3 (hn i hi) h0 (by decide)) (fun _ => ⟨g1, g2⟩) (Nat.le_refl _) (Nat.le_refl _)
end
theorem tm_one {s : ByteArray} {a b : Int} {A : Option Addr} {n c : Nat} {u : Value} (h : u ∈ [Value.string s, .int .i64 a, .int .i64 b, .slice A n c]) : u.oneCell' = true := by
  simp at h
  rcases h with rfl | rfl | rfl | rfl <;> rfl
set_option maxRecDepth 100000 in
set_option maxHeartbeats 3200000 in
theorem copyBoard_raw (T : Nat → Tm) (n lo hi : Nat) (v : Value) (w : World) (hv : SlT w lo hi v n T) (hhi : hi ≤ w.heap.size) (hf : tfits T n) (hp : ∀ i, i < n → 0 < (T i).n) :
    Calls Try.prog 38 #[v] w fun e w' => ∃ (v' : Value) (β : Nat → Nat) (ck : Nat → Value), e = .returned v' ∧ w'.ownsRow w.heap.size 27 4 v' n (rowL (tC T ck) 4 n) ∧ Subs w' w.heap.size β ck T n ∧ Below w.heap.size w w' := by
  obtain ⟨A, cap, rfl, hcap⟩ := hv.open_
  obtain ⟨hn, hfit⟩ := hf
  obtain ⟨ii, hii, iz0, iz1, iz2⟩ := info_parts infoTeam
  have HP := hide hp
  have HF := hide hfit
  clear hp hfit
  go_enter Try.func38, Try.ntmps38
  go_wp2_with fail
  go_loopw [3, 8] (fun o i wr => ∃ (k : Nat) (β : Nat → Nat) (ck : Nat → Value) (B : Option Addr) (cp : Nat), k ≤ n ∧ i = .int .i64 k ∧ o = .slice B k cp ∧ Hid (wr.ownsRow w.heap.size 27 4 (.slice B k cp) k (rowL (tC T ck) 4 k)) ∧ Hid (Subs wr w.heap.size β ck T k) ∧ Below w.heap.size w wr) (fun _ i _ => n - (intOf i).toNat)
  case atStart => exact ⟨0, fun _ => 0, fun _ => .slice none 0 0, none, 0, by omega, rfl, rfl, World.ownsRow_nil _ _ _ _, Subs.zero _ _ _ _ _, Below.refl _ _⟩
  case round =>
    obtain ⟨k, β, ck, B, cp, hk, rfl, rfl, hown, hsub, hb⟩ := hrel
    have hzr := hb.size
    by_cases hkn : k < n
    · obtain ⟨blk, off, dk, rfl, h1, h2, h3⟩ := (hv.below hb hhi).at_ (by omega) (by omega)
      obtain ⟨t1, t2, t3, t4, t5, t6, t7⟩ := h3 k hkn
      clear h3
      have HC := hide (HF.out k hkn)
      have hpk := HP.out k hkn
      obtain ⟨Ak, ckk, ek, _, _⟩ := t6.open_
      rw [ek] at t5 t6
      clear ek
      have T6 := hide t6
      clear t6
      go_wp2_with fail
      refine (copyTeam_any (T k) lo hi _ _ (T6.out.below (B := wr.heap.size) (by repeat (first | (with_reducible exact Below.refl _ _) | (with_reducible refine below_ov ?_ ?_) | (with_reducible refine Below.setCell ?_ ?_ _) | (with_reducible refine Below.alloc ?_ ?_ _) | (with_reducible refine Below.drew ?_) | (with_reducible refine below_drewN ?_ _) | (refine Below.trans ?_ (Below.mono ‹Below _ _ _› (by first | omega | (simp; done) | (simp; omega)))) | exact Below.refl _ _ | omega | (focus (simp; done)) | (focus (simp; omega)))) (by omega)) (by first | omega | (simp; done) | (simp; omega)) hpk HC.out).mono ?_
      rintro e w2 ⟨u, rfl, hou, hgr2, hb2⟩
      have hz2 := hb2.size
      (try (simp at hz2))
      (try (simp at hgr2))
      obtain ⟨Au, cu, rfl, hcu, _⟩ := hou.sl.open_
      have HU := hide hou
      have ho2 := hide (row_below (hown.out.alloc _) hb2 (Nat.le_refl _))
      have hs2 : Hid (Subs w2 w.heap.size β ck T k) := hsub.out.below (B := wr.heap.size) (((Below.refl _ _).alloc (Nat.le_refl _) _).trans (hb2.mono (by simp))) (Nat.le_refl _)
      clear hou hown
      go_wp2_with (at_builtin; refine wpList_append_two _ rfl _ _ 24 rfl w.heap.size 27 ii (.agg #[.string ⟨#[]⟩, .int .i64 0, .int .i64 0, .slice none 0 0]) 4 56 Try.underlying24 hii iz0 iz1 iz2 rfl (by decide) _ _ _ rfl (ho2.out.alloc _) ⟨w2.heap.size, 0, none⟩ 1 1 [.string (T k).s, .int .i64 (T k).v, .int .i64 (T k).y, .slice Au (T k).n cu] rfl rfl ?_ (fun u hu => tm_one hu) (by omega) ?_ ?_ ?_)
      · intro i u hu
        match i, hu with
        | 0, hu => simp at hu; subst hu; simp [go_sem, Addr.add]
        | 1, hu => simp at hu; subst hu; simp [go_sem, Addr.add]
        | 2, hu => simp at hu; subst hu; simp [go_sem, Addr.add]
        | 3, hu => simp at hu; subst hu; simp [go_sem, Addr.add]
      · unfold maxLen; omega
      · omega
      intro v' w7 hcase
      have hb2w : Below w.heap.size w w2 := (by repeat (first | (with_reducible exact Below.refl _ _) | (with_reducible refine below_ov ?_ ?_) | (with_reducible refine Below.setCell ?_ ?_ _) | (with_reducible refine Below.alloc ?_ ?_ _) | (with_reducible refine Below.drew ?_) | (with_reducible refine below_drewN ?_ _) | (refine Below.trans ?_ (Below.mono ‹Below _ _ _› (by first | omega | (simp; done) | (simp; omega)))) | exact Below.refl _ _ | omega | (focus (simp; done)) | (focus (simp; omega))))
      have hfin : Hid (w7.ownsRow w.heap.size 27 4 v' (k + 1) (rowL (tC T (fun i => if i = k then .slice Au (T k).n cu else ck i)) 4 (k + 1)) ∧ Below w.heap.size w w7 ∧ w2.heap.size < w7.heap.size ∧ ∀ b, b < w2.heap.size → (.slice B k cp : Value).ownBlock ≠ some b → w7.heap[b]? = w2.heap[b]?) := by
        show _ ∧ _
        rw [← rowL_tm]
        rcases hcase with ⟨_, r1, r2⟩ | ⟨r1, r2⟩
        · refine ⟨r1, (hb2w.alloc (by omega) _).grown r2 (by simp; omega) (fun g hg => (ho2.out.lt g hg).1), by have := r2.size; simp at this; omega, fun b h1 h2 => ?_⟩
          rw [r2.block b (by simp; omega) (fun e => h2 e.symm)]
          exact Deep.blk_alloc_lt _ _ _ h1
        · refine ⟨r1.mono (by first | omega | (simp; omega)), (hb2w.alloc (by omega) _).grown r2 (by simp; omega) (fun g hg => by cases hg), by have := r2.size; simp at this; omega, fun b h1 h2 => ?_⟩
          rw [r2.block b (by simp; omega) (fun e => by cases e)]
          exact Deep.blk_alloc_lt _ _ _ h1
      clear hcase
      obtain ⟨B2, cp2, rfl⟩ := row_form hfin.out.1
      go_wp2_with fail
      go_roundw
      case rel =>
        obtain ⟨hr, hbw, hzz, hkeep⟩ := hfin.out
        obtain ⟨b, hb0, hb9, hOL⟩ := (HU.out.lf (by omega)).pin (by first | omega | (simp; omega))
        (try (simp at hb0))
        have hap : ∀ i, i < k → w7.heap[β i]? = w2.heap[β i]? := fun i hi => hkeep _ (hs2.out.1 i hi).2.2 fun e => Subs.apart hs2.out (fun i hi => HP.out i (by omega)) ho2.out e i hi rfl
        have hbk : w7.heap[b]? = w2.heap[b]? := hkeep b hb9 fun e => by
          have := hsub.out
          have hlt := (ho2.out.lt b e)
          rcases hOL with ⟨h0, _⟩ | ⟨g1, cap1, ys, h0, h1, h2, h3, ⟨_, h4⟩, _⟩
          · omega
          obtain rfl : g1 = b := by omega
          rcases h4 with ⟨h4, _⟩ | ⟨x, _, cur, he, _, hh, _⟩
          · cases h0; cases h4
          rw [h0] at he
          injection he with e1 _ _
          injection e1 with e1
          injection e1 with e1
          rcases ho2.out.2 with ⟨h5, _⟩ | ⟨y, _, cur', he', _, hh', _⟩
          · rw [h5] at e; cases e
          rw [he'] at e
          injection e with e
          have e : y = g1 := e
          rw [e] at hh'
          rw [← e1, hh'] at hh
          injection hh with hh
          injection hh with _ e3 _
          exact absurd e3 (by decide)
        exact ⟨k + 1, _, _, B2, cp2, by omega, by go_num, rfl, hr, Subs.snoc (B := wr.heap.size) (b := b) (hs2.out.keepB (by omega) hap) (fun i hi => (hsub.out.1 i hi).2.2) (by omega) (by omega) (by omega) (hOL.keep1 hbk), hbw⟩
      case measure => simp [intOf]; omega
    · obtain rfl : k = n := by omega
      go_wp2_with fail
      go_ret
      exact ⟨_, β, ck, rfl, hown.out, hsub.out, hb⟩
theorem copyBoard_any (T : Nat → Tm) (n lo hi : Nat) (v : Value) (w : World) (hv : SlT w lo hi v n T) (hhi : hi ≤ w.heap.size) (hf : tfits T n) (hp : ∀ i, i < n → 0 < (T i).n) :
    Calls Try.prog 38 #[v] w fun e w' => ∃ v', e = .returned v' ∧ OwnT w' w.heap.size w'.heap.size v' n T ∧ Below w.heap.size w w' := by
  refine (copyBoard_raw T n lo hi v w hv hhi hf hp).mono ?_
  rintro e w' ⟨v', β, ck, h1, h2, h3, h4⟩
  exact ⟨v', h1, h3.board hp h2, h4⟩
set_option maxRecDepth 100000 in
set_option maxHeartbeats 3200000 in
theorem enOwnAll_raw (T : Nat → Tm) (n lo hi : Nat) (v : Value) (w : World) (hv : SlT w lo hi v n T) (hhi : hi ≤ w.heap.size) (hf : tfits T n) (hp : ∀ i, i < n → 0 < (T i).n) :
    Calls Try.prog 43 #[v] w fun e w' => ∃ (v' : Value) (β : Nat → Nat) (ck : Nat → Value), e = .returned v' ∧ w'.ownsRow w.heap.size 27 4 v' n (rowL (tC T ck) 4 n) ∧ Subs w' w.heap.size β ck T n ∧ Below w.heap.size w w' := by
  obtain ⟨A, cap, rfl, hcap⟩ := hv.open_
  obtain ⟨hn, hfit⟩ := hf
  obtain ⟨ii, hii, iz0, iz1, iz2⟩ := info_parts infoTeam
  have HP := hide hp
  have HF := hide hfit
  clear hp hfit
  go_enter Try.func43, Try.ntmps43
  go_wp2_with fail
  go_loopw [3, 8] (fun o i wr => ∃ (k : Nat) (β : Nat → Nat) (ck : Nat → Value) (B : Option Addr) (cp : Nat), k ≤ n ∧ i = .int .i64 k ∧ o = .slice B k cp ∧ Hid (wr.ownsRow w.heap.size 27 4 (.slice B k cp) k (rowL (tC T ck) 4 k)) ∧ Hid (Subs wr w.heap.size β ck T k) ∧ Below w.heap.size w wr) (fun _ i _ => n - (intOf i).toNat)
  case atStart => exact ⟨0, fun _ => 0, fun _ => .slice none 0 0, none, 0, by omega, rfl, rfl, World.ownsRow_nil _ _ _ _, Subs.zero _ _ _ _ _, Below.refl _ _⟩
  case round =>
    obtain ⟨k, β, ck, B, cp, hk, rfl, rfl, hown, hsub, hb⟩ := hrel
    have hzr := hb.size
    by_cases hkn : k < n
    · obtain ⟨blk, off, dk, rfl, h1, h2, h3⟩ := (hv.below hb hhi).at_ (by omega) (by omega)
      obtain ⟨t1, t2, t3, t4, t5, t6, t7⟩ := h3 k hkn
      clear h3
      have HC := hide (HF.out k hkn)
      have hpk := HP.out k hkn
      obtain ⟨Ak, ckk, ek, _, _⟩ := t6.open_
      rw [ek] at t5 t6
      clear ek
      have T6 := hide t6
      clear t6
      go_wp2_with fail
      refine (enOwn_any (T k) lo hi _ _ (T6.out.below (B := wr.heap.size) (by repeat (first | (with_reducible exact Below.refl _ _) | (with_reducible refine below_ov ?_ ?_) | (with_reducible refine Below.setCell ?_ ?_ _) | (with_reducible refine Below.alloc ?_ ?_ _) | (with_reducible refine Below.drew ?_) | (with_reducible refine below_drewN ?_ _) | (refine Below.trans ?_ (Below.mono ‹Below _ _ _› (by first | omega | (simp; done) | (simp; omega)))) | exact Below.refl _ _ | omega | (focus (simp; done)) | (focus (simp; omega)))) (by omega)) (by first | omega | (simp; done) | (simp; omega)) hpk HC.out).mono ?_
      rintro e w2 ⟨u, rfl, hou, hgr2, hb2⟩
      have hz2 := hb2.size
      (try (simp at hz2))
      (try (simp at hgr2))
      obtain ⟨Au, cu, rfl, hcu, _⟩ := hou.sl.open_
      have HU := hide hou
      have ho2 := hide (row_below (hown.out.alloc _) hb2 (Nat.le_refl _))
      have hs2 : Hid (Subs w2 w.heap.size β ck T k) := hsub.out.below (B := wr.heap.size) (((Below.refl _ _).alloc (Nat.le_refl _) _).trans (hb2.mono (by simp))) (Nat.le_refl _)
      clear hou hown
      go_wp2_with (at_builtin; refine wpList_append_two _ rfl _ _ 24 rfl w.heap.size 27 ii (.agg #[.string ⟨#[]⟩, .int .i64 0, .int .i64 0, .slice none 0 0]) 4 56 Try.underlying24 hii iz0 iz1 iz2 rfl (by decide) _ _ _ rfl (ho2.out.alloc _) ⟨w2.heap.size, 0, none⟩ 1 1 [.string (T k).s, .int .i64 (T k).v, .int .i64 (T k).y, .slice Au (T k).n cu] rfl rfl ?_ (fun u hu => tm_one hu) (by omega) ?_ ?_ ?_)
      · intro i u hu
        match i, hu with
        | 0, hu => simp at hu; subst hu; simp [go_sem, Addr.add]
        | 1, hu => simp at hu; subst hu; simp [go_sem, Addr.add]
        | 2, hu => simp at hu; subst hu; simp [go_sem, Addr.add]
        | 3, hu => simp at hu; subst hu; simp [go_sem, Addr.add]
      · unfold maxLen; omega
      · omega
      intro v' w7 hcase
      have hb2w : Below w.heap.size w w2 := (by repeat (first | (with_reducible exact Below.refl _ _) | (with_reducible refine below_ov ?_ ?_) | (with_reducible refine Below.setCell ?_ ?_ _) | (with_reducible refine Below.alloc ?_ ?_ _) | (with_reducible refine Below.drew ?_) | (with_reducible refine below_drewN ?_ _) | (refine Below.trans ?_ (Below.mono ‹Below _ _ _› (by first | omega | (simp; done) | (simp; omega)))) | exact Below.refl _ _ | omega | (focus (simp; done)) | (focus (simp; omega))))
      have hfin : Hid (w7.ownsRow w.heap.size 27 4 v' (k + 1) (rowL (tC T (fun i => if i = k then .slice Au (T k).n cu else ck i)) 4 (k + 1)) ∧ Below w.heap.size w w7 ∧ w2.heap.size < w7.heap.size ∧ ∀ b, b < w2.heap.size → (.slice B k cp : Value).ownBlock ≠ some b → w7.heap[b]? = w2.heap[b]?) := by
        show _ ∧ _
        rw [← rowL_tm]
        rcases hcase with ⟨_, r1, r2⟩ | ⟨r1, r2⟩
        · refine ⟨r1, (hb2w.alloc (by omega) _).grown r2 (by simp; omega) (fun g hg => (ho2.out.lt g hg).1), by have := r2.size; simp at this; omega, fun b h1 h2 => ?_⟩
          rw [r2.block b (by simp; omega) (fun e => h2 e.symm)]
          exact Deep.blk_alloc_lt _ _ _ h1
        · refine ⟨r1.mono (by first | omega | (simp; omega)), (hb2w.alloc (by omega) _).grown r2 (by simp; omega) (fun g hg => by cases hg), by have := r2.size; simp at this; omega, fun b h1 h2 => ?_⟩
          rw [r2.block b (by simp; omega) (fun e => by cases e)]
          exact Deep.blk_alloc_lt _ _ _ h1
      clear hcase
      obtain ⟨B2, cp2, rfl⟩ := row_form hfin.out.1
      go_wp2_with fail
      go_roundw
      case rel =>
        obtain ⟨hr, hbw, hzz, hkeep⟩ := hfin.out
        obtain ⟨b, hb0, hb9, hOL⟩ := (HU.out.lf (by omega)).pin (by first | omega | (simp; omega))
        (try (simp at hb0))
        have hap : ∀ i, i < k → w7.heap[β i]? = w2.heap[β i]? := fun i hi => hkeep _ (hs2.out.1 i hi).2.2 fun e => Subs.apart hs2.out (fun i hi => HP.out i (by omega)) ho2.out e i hi rfl
        have hbk : w7.heap[b]? = w2.heap[b]? := hkeep b hb9 fun e => by
          have := hsub.out
          have hlt := (ho2.out.lt b e)
          rcases hOL with ⟨h0, _⟩ | ⟨g1, cap1, ys, h0, h1, h2, h3, ⟨_, h4⟩, _⟩
          · omega
          obtain rfl : g1 = b := by omega
          rcases h4 with ⟨h4, _⟩ | ⟨x, _, cur, he, _, hh, _⟩
          · cases h0; cases h4
          rw [h0] at he
          injection he with e1 _ _
          injection e1 with e1
          injection e1 with e1
          rcases ho2.out.2 with ⟨h5, _⟩ | ⟨y, _, cur', he', _, hh', _⟩
          · rw [h5] at e; cases e
          rw [he'] at e
          injection e with e
          have e : y = g1 := e
          rw [e] at hh'
          rw [← e1, hh'] at hh
          injection hh with hh
          injection hh with _ e3 _
          exact absurd e3 (by decide)
        exact ⟨k + 1, _, _, B2, cp2, by omega, by go_num, rfl, hr, Subs.snoc (B := wr.heap.size) (b := b) (hs2.out.keepB (by omega) hap) (fun i hi => (hsub.out.1 i hi).2.2) (by omega) (by omega) (by omega) (hOL.keep1 hbk), hbw⟩
      case measure => simp [intOf]; omega
    · obtain rfl : k = n := by omega
      go_wp2_with fail
      go_ret
      exact ⟨_, β, ck, rfl, hown.out, hsub.out, hb⟩
theorem enOwnAll_any (T : Nat → Tm) (n lo hi : Nat) (v : Value) (w : World) (hv : SlT w lo hi v n T) (hhi : hi ≤ w.heap.size) (hf : tfits T n) (hp : ∀ i, i < n → 0 < (T i).n) :
    Calls Try.prog 43 #[v] w fun e w' => ∃ v', e = .returned v' ∧ OwnT w' w.heap.size w'.heap.size v' n T ∧ Below w.heap.size w w' := by
  refine (enOwnAll_raw T n lo hi v w hv hhi hf hp).mono ?_
  rintro e w' ⟨v', β, ck, h1, h2, h3, h4⟩
  exact ⟨v', h1, h3.board hp h2, h4⟩

end Go.Proofs.Ytnfhgnibjebmlaa

/-
  Walks: a team taken out of a board of the call's own.-/
namespace Go.Proofs.Ytnfhgnibjebmlaa
set_option linter.unusedVariables false
set_option linter.unusedSimpArgs false
open Go.RowKit

theorem run_clear_one {P : Program} (w : World) (t e ty : TypeId) (z : Value) (zs : List Value) (ht : P.underlying t = some (.slice e)) (hv : ∀ w, (zeroValue e).run P w = .ok z w) (hz : (Builtin.zeroCells z.cells 1).toList = zs) (h1 : ∀ u ∈ zs, u.oneCell' = true) (b o c : Nat)
    (hc : ∀ j, j < zs.length → (w.cell? ⟨b, o + j, none⟩).isSome = true) (hf : ∀ j, j < zs.length → w.frozen? ⟨b, o + j, none⟩ = false) :
    (Builtin.clear_ #[t] ty #[.slice (some ⟨b, o, none⟩) 1 c]).run P w = .ok (.tuple #[]) (w.setCells b o zs) := by
  have hst := run_storeCells_cells (P := P) b o zs 0 w (by simpa using hc) (by simpa using hf) h1
  simp only [Nat.add_zero] at hst
  simp [Builtin.clear_, run_underlying ht, hv, hz, hst]
section
variable {w w' : World} {lo hi E sz n m K cap g : Nat} {v : Value} {cc : Nat → Value}
theorem OwnL.setCells : ∀ {vs : List Value} {w : World} {o : Nat} {cc : Nat → Value}, OwnL w lo hi E sz (.slice (some ⟨g, 0, none⟩) n cap) n K cc → o + vs.length ≤ n * sz →
    OwnL (w.setCells g o vs) lo hi E sz (.slice (some ⟨g, 0, none⟩) n cap) n K (fun p => if o ≤ p ∧ p < o + vs.length then vs.getD (p - o) (.bool false) else cc p)
  | [], w, o, cc, h, _ => h.congr fun p _ => by
    have : ¬ (o ≤ p ∧ p < o + 0) := by omega
    show _ = if o ≤ p ∧ p < o + 0 then _ else _
    rw [if_neg this]
  | v :: r, w, o, cc, h, hl => by
    simp only [List.length_cons] at hl
    refine (OwnL.setCells (vs := r) (h.set (o := o) (by omega) v) (by omega)).congr fun p _ => ?_
    simp only [List.length_cons]
    rcases Nat.lt_trichotomy p o with h1 | h1 | h1
    · have a1 : ¬ (o + 1 ≤ p ∧ p < o + 1 + r.length) := by omega
      have a2 : ¬ (o ≤ p ∧ p < o + (r.length + 1)) := by omega
      have a3 : ¬ p = o := by omega
      simp only [a1, a2, a3, if_false]
    · subst h1
      have a1 : ¬ (p + 1 ≤ p ∧ p < p + 1 + r.length) := by omega
      have a2 : p ≤ p ∧ p < p + (r.length + 1) := by omega
      simp only [a1, a2, if_false, if_true, Nat.sub_self]
      simp
    · by_cases h2 : p < o + 1 + r.length
      · have a1 : o + 1 ≤ p ∧ p < o + 1 + r.length := by omega
        have a2 : o ≤ p ∧ p < o + (r.length + 1) := by omega
        simp only [a1, a2, if_true, and_self]
        obtain ⟨q, rfl⟩ : ∃ q, p = o + 1 + q := ⟨p - (o + 1), by omega⟩
        rw [show o + 1 + q - (o + 1) = q by omega, show o + 1 + q - o = q + 1 by omega]
        simp
      · have a1 : ¬ (o + 1 ≤ p ∧ p < o + 1 + r.length) := by omega
        have a2 : ¬ (o ≤ p ∧ p < o + (r.length + 1)) := by omega
        have a3 : ¬ p = o := by omega
        simp only [a1, a2, a3, if_false]
theorem OwnL.cut (h : OwnL w lo hi E sz (.slice (some ⟨g, 0, none⟩) n cap) n (n * sz) cc) (hm : m ≤ n) : OwnL w lo hi E sz (.slice (some ⟨g, 0, none⟩) m cap) m (m * sz) cc := by
  rcases h with ⟨rfl, _⟩ | ⟨g', cap', xs, h0, a1, a2, a3, ⟨hl, a4⟩, a5⟩
  · obtain rfl : m = 0 := by omega
    exact .inl ⟨rfl, _, _, rfl⟩
  · injection h0 with e1 e2 e3
    injection e1 with e1
    injection e1 with e1
    subst e1 e3
    have hms : m * sz ≤ n * sz := Nat.mul_le_mul_right sz hm
    rcases a4 with ⟨a4, _⟩ | ⟨x, y, cur, he, hb, hh, hnc, hcm, hcs, ht⟩
    · cases a4
    · injection he with e1 _ e3
      injection e1 with e1
      injection e1 with e1
      subst e1 e3
      refine .inr ⟨g, cap, xs.take (m * sz), rfl, a1, a2, by omega, ⟨?_, .inr ⟨g, cap, cur, rfl, hb, hh, by omega, hcm, hcs, ?_⟩⟩, fun o ho _ => ?_⟩
      · rw [List.length_take, hl]; omega
      · rw [← ht, List.take_take]
        congr 1
        omega
      · rw [List.getElem?_take, if_pos (by omega)]
        exact a5 o (by omega) (by omega)
theorem OwnL.cap_le (h : OwnL w lo hi E sz (.slice (some ⟨g, 0, none⟩) n cap) n K cc) (hn : 0 < n) : n ≤ cap ∧ cap ≤ maxLen := by
  rcases h with ⟨h0, _⟩ | ⟨g', cap', xs, h0, a1, a2, a3, ⟨hl, a4⟩, a5⟩
  · omega
  · injection h0 with e1 e2 e3
    subst e3
    rcases a4 with ⟨a4, _⟩ | ⟨x, y, cur, he, hb, hh, hnc, hcm, hcs, ht⟩
    · cases a4
    · injection he with _ _ e3
      subst e3
      exact ⟨a3, hcm⟩
theorem Only.setCells {g : Nat} : ∀ {vs : List Value} {w' : World} {o : Nat}, Only g (g + 1) w w' → Only g (g + 1) w (w'.setCells g o vs)
  | [], _, _, h => h
  | v :: r, w', o, h => Only.setCells (vs := r) (h.setCell (a := ⟨g, o, none⟩) (Nat.le_refl _) (Nat.lt_succ_self _) v)
end
theorem setCells_size (b : Nat) : ∀ (vs : List Value) (o : Nat) (w : World), (w.setCells b o vs).heap.size = w.heap.size
  | [], _, _ => rfl
  | v :: r, o, w => by rw [World.setCells, setCells_size b r]; simp [World.setCell]
theorem setCells_other (b : Nat) {k : Nat} (hk : k ≠ b) : ∀ (vs : List Value) (o : Nat) (w : World), (w.setCells b o vs).heap[k]? = w.heap[k]?
  | [], _, _ => rfl
  | v :: r, o, w => by rw [World.setCells, setCells_other b hk r]; exact Deep.blk_setCell_other _ _ _ _ hk
/-- The place that was i in the rest of a list from which place k has gone. -/
def skp (k i : Nat) : Nat := if i < k then i else i + 1
theorem skp_lt {k i : Nat} (h : i < k) : skp k i = i := if_pos h
theorem skp_ge {k i : Nat} (h : k ≤ i) : skp k i = i + 1 := if_neg (by omega)
theorem skp_inj {k i j : Nat} (h : i ≠ j) : skp k i ≠ skp k j := by unfold skp; split <;> split <;> omega
theorem skp_le {k i n : Nat} (h : i < n) : skp k i < n + 1 := by unfold skp; split <;> omega
theorem zeroTm : (Builtin.zeroCells (Value.agg #[.string ⟨#[]⟩, .int .i64 0, .int .i64 0, .slice none 0 0]).cells 1).toList = [.string ⟨#[]⟩, .int .i64 0, .int .i64 0, .slice none 0 0] := by kernel_rfl
set_option maxRecDepth 100000 in
set_option maxHeartbeats 3200000 in
theorem DeleteTeam_any (T : Nat → Tm) (k d γ cap : Nat) (β : Nat → Nat) (ck : Nat → Value) (w : World) (h : OwnX w γ β ck (.slice (some ⟨γ, 0, none⟩) (k + d + 1) cap) (k + d + 1) T) (hn : k + d + 1 ≤ 6) (hγ : γ < w.heap.size) (hc1 : ∀ i, i < k + d + 1 → (ck i).oneCell' = true) :
    Calls Try.prog 47 #[.slice (some ⟨γ, 0, none⟩) (k + d + 1) cap, .int .i64 k, .int .i64 (k + 1)] w fun e w' => e = .returned (.slice (some ⟨γ, 0, none⟩) (k + d) cap) ∧ OwnX w' γ (fun i => β (skp k i)) (fun i => ck (skp k i)) (.slice (some ⟨γ, 0, none⟩) (k + d) cap) (k + d) (fun i => T (skp k i)) ∧ Only γ (γ + 1) w w' := by
  obtain ⟨hcap, hmax⟩ := h.own.cap_le (by omega)
  unfold maxLen at hmax
  obtain ⟨ii, hii, iz0, iz1, iz2⟩ := info_parts infoTeam
  obtain ⟨news, hnews⟩ : ∃ news, news = rowL (fun i j => tC T ck (k + 1 + i) j) 4 d := ⟨_, rfl⟩
  have hlen : news.length = d * 4 := by rw [hnews]; exact rowL_len _ _ _
  obtain ⟨W1, hW1⟩ : ∃ W1, W1 = w.drew.setCells γ (0 + k * 4) news := ⟨_, rfl⟩
  have hcell : ∀ o, o < (k + d + 1) * 4 → (∃ u, w.cell? ⟨γ, o, none⟩ = some u) ∧ w.frozen? ⟨γ, o, none⟩ = false ∧ w.cell? ⟨γ, o, none⟩ = some (tC T ck (o / 4) (o % 4)) := fun o ho => by
    obtain ⟨a, b, c⟩ := h.own.cell (by omega) ho
    exact ⟨a, b, c ho⟩
  have hol : OwnL w.drew γ (γ + 1) 27 4 (.slice (some ⟨γ, 0, none⟩) (k + d + 1) cap) (k + d + 1) ((k + d + 1) * 4) (fun o => tC T ck (o / 4) (o % 4)) := h.own.keep1 rfl
  have ho1 := hol.setCells (vs := news) (o := 0 + k * 4) (by omega)
  rw [← hW1] at ho1
  have hz1 : W1.heap.size = w.heap.size := by
    rw [hW1, setCells_size]; rfl
  obtain ⟨A, hA, hsrc⟩ : ∃ A : Addr, (if cap = k + 1 then (some (⟨γ, 0, none⟩ : Addr)) else some ⟨γ, (k + 1) * 4, none⟩) = some A ∧ Hid (∀ t u, news[t]? = some u → w.drew.cell? (A.add t) = some u) := by
    by_cases hd : cap = k + 1
    · refine ⟨⟨γ, 0, none⟩, by simp [hd], fun t u hu => ?_⟩
      have h0 : d = 0 := by omega
      rw [List.length_eq_zero_iff.1 (hlen.trans (by omega))] at hu
      simp at hu
    · refine ⟨⟨γ, (k + 1) * 4, none⟩, by simp [hd], fun t u hu => ?_⟩
      have ht : t < d * 4 := by
        have := (List.getElem?_eq_some_iff.1 hu).1
        omega
      have h2 := (hcell ((k + 1) * 4 + t) (by omega)).2.2
      rw [Addr.add_lit]
      show w.cell? _ = _
      rw [h2]
      have h3 := rowL_get (fun i j => tC T ck (k + 1 + i) j) 4 (k := d) (i := t / 4) (j := t % 4) (by omega) (by omega)
      rw [Nat.div_add_mod', ← hnews, hu] at h3
      rw [h3, show ((k + 1) * 4 + t) / 4 = k + 1 + t / 4 by omega, show ((k + 1) * 4 + t) % 4 = t % 4 by omega]
  have s1 : Hid (news.length = d * 4) := hlen
  have s2 : Hid (∀ u ∈ news, u.oneCell' = true) := by
    intro u hu
    rw [hnews] at hu
    obtain ⟨i, j, hi, hj, rfl⟩ := rowL_mem hu
    match j, hj with
    | 0, _ => rfl
    | 1, _ => rfl
    | 2, _ => rfl
    | 3, _ => exact hc1 _ (by omega)
  have s3 : Hid (∀ t, t < news.length → (w.drew.cell? ⟨γ, 0 + k * 4 + t, none⟩).isSome = true ∧ w.drew.frozen? ⟨γ, 0 + k * 4 + t, none⟩ = false) := by
    intro t ht
    obtain ⟨⟨u, a⟩, b, _⟩ := hcell (0 + k * 4 + t) (by omega)
    exact ⟨by show (w.cell? _).isSome = true; rw [a]; rfl, b⟩
  have hcl : ∀ ty, (Builtin.clear_ #[24] ty #[.slice (some ⟨γ, (k + d) * 4, none⟩) 1 (cap - (k + d))]).run Try.prog W1 = .ok (.tuple #[]) (W1.setCells γ ((k + d) * 4) [.string ⟨#[]⟩, .int .i64 0, .int .i64 0, .slice none 0 0]) := fun ty =>
    run_clear_one W1 _ 27 ty _ _ Try.underlying24 Try.zeroValue27 zeroTm (fun u hu => tm_one hu) γ ((k + d) * 4) _ (fun j hj => by
      simp at hj
      obtain ⟨⟨u, a⟩, _⟩ := ho1.cell (by omega) (o := (k + d) * 4 + j) (by omega)
      rw [a]; rfl) (fun j hj => by
      simp at hj
      exact (ho1.cell (by omega) (o := (k + d) * 4 + j) (by omega)).2.1)
  have hW : Hid (W1 = w.drew.setCells γ (0 + k * 4) news) := hW1
  have HN : Hid (news = rowL (fun i j => tC T ck (k + 1 + i) j) 4 d) := hnews
  have HO1 := hide ho1
  have HH := hide h
  have HL := hide hlen
  have l1 : k ≤ cap := by omega
  have l2 : k + 1 ≤ cap := by omega
  have l3 : ¬ cap = k + d := by omega
  have l4 : ¬ cap = k := by omega
  have l5 : (k : Int) + 1 ≤ (k : Int) + (d : Int) + 1 := by omega
  have l6 : (0 : Int) ≤ (k : Int) + 1 := by omega
  have ne : ¬ ((k : Int) = (k : Int) + 1) := by omega
  clear hW1 hnews ho1 h hcell hol hlen
  go_enter Try.func47, Try.ntmps47
  go_wp2_with fail
  go_region_law (refine step_append_room rfl (.tmp 22) (.tmp 25) 24 rfl 27 ii 4 Try.underlying24 hii iz1 γ 0 k cap (by simp [Act.eval, Act.put]) A d (cap - (k + 1)) news (by simp [Act.eval, Act.put]) s1.out hsrc.out s2.out (by omega) s3.out ?_; rw [← hW.out])
  go_wp2_with fail
  go_ret
  have hoth : ∀ b, b ≠ γ → (W1.setCells γ ((k + d) * 4) [.string ⟨#[]⟩, .int .i64 0, .int .i64 0, .slice none 0 0]).heap[b]? = w.heap[b]? := fun b hb => by
    rw [setCells_other γ hb, hW.out, setCells_other γ hb]
    rfl
  refine ⟨rfl, ⟨?_, fun i hi => (HH.out.sub (skp k i) (skp_le hi)).keep1 (hoth _ (HH.out.ne _ (skp_le hi))), fun i hi => HH.out.ne _ (skp_le hi), fun i j hi hj hij => HH.out.inj _ _ (skp_le hi) (skp_le hj) (skp_inj hij)⟩, ?_⟩
  · refine ((HO1.out.setCells (vs := [.string ⟨#[]⟩, .int .i64 0, .int .i64 0, .slice none 0 0]) (o := (k + d) * 4) (by simp; omega)).cut (m := k + d) (by omega)).congr fun o ho => ?_
    have a1 : ¬ ((k + d) * 4 ≤ o ∧ o < (k + d) * 4 + [Value.string ⟨#[]⟩, .int .i64 0, .int .i64 0, .slice none 0 0].length) := by omega
    rw [if_neg a1]
    obtain ⟨i, j, hj, rfl⟩ : ∃ i j, j < 4 ∧ o = i * 4 + j := ⟨o / 4, o % 4, by omega, by omega⟩
    have e1 : (i * 4 + j) / 4 = i := by omega
    have e2 : (i * 4 + j) % 4 = j := by omega
    rw [e1, e2]
    show _ = tC T ck (skp k i) j
    have hl := HL.out
    rcases Nat.lt_or_ge i k with hik | hik
    · rw [if_neg (by omega), skp_lt hik]
    · rw [if_pos (by omega), skp_ge hik, show i * 4 + j - (0 + k * 4) = (i - k) * 4 + j by omega, HN.out]
      have := rowL_get (fun i j => tC T ck (k + 1 + i) j) 4 (k := d) (i := i - k) (j := j) (by omega) hj
      rw [List.getD, this, show k + 1 + (i - k) = i + 1 by omega]
      rfl
  · refine Only.setCells ?_
    rw [hW.out]
    exact Only.setCells ⟨rfl, rfl, rfl, Nat.le_refl _, fun _ _ _ => rfl⟩

end Go.Proofs.Ytnfhgnibjebmlaa

/-
  Walks: the team with a name.-/
namespace Go.Proofs.Ytnfhgnibjebmlaa
set_option linter.unusedVariables false
set_option linter.unusedSimpArgs false
open Go.RowKit

def nmP (T : Nat → Tm) (s : ByteArray) (i : Nat) : Bool := (T i).s.toList == s.toList
def fdK (T : Nat → Tm) (n : Nat) (s : ByteArray) : Nat := lead (fun i => ltS (T i).s s) n
def fdB (T : Nat → Tm) (n : Nat) (s : ByteArray) : Bool := decide (fdK T n s < n) && nmP T s (fdK T n s)
theorem nmP_iff {T : Nat → Tm} {s : ByteArray} {i : Nat} : nmP T s i = true ↔ (T i).s = s := by
  rw [nmP, str_beq]; simp
/-- On a board the names rise. -/
theorem bd_lt {T : Nat → Tm} {n : Nat} (h : bdB T n = true) {i : Nat} : ∀ {j : Nat}, i < j → j < n → ltS (T i).s (T j).s = true
  | j + 1, h1, h2 => by
    have h3 := ((bd_facts h).2 (j + 1) h2).2 (by omega)
    rw [Nat.add_sub_cancel] at h3
    rcases Nat.lt_or_ge i j with h4 | h4
    · exact ltS_trans (bd_lt h h4 (by omega)) h3
    · obtain rfl : i = j := by omega
      exact h3
/-- Both ways to a name meet. -/
theorem fd_eq {T : Nat → Tm} {n : Nat} {s : ByteArray} (h : bdB T n = true) : fstI (nmP T s) n = if fdB T n s = true then (fdK T n s : Int) else -1 := by
  obtain ⟨h1, h2, h3⟩ := lead_spec (fun i => ltS (T i).s s) n
  by_cases hb : fdB T n s = true
  · rw [if_pos hb]
    simp only [fdB, Bool.and_eq_true, decide_eq_true_eq] at hb
    refine fstI_at hb.1 (fun j hj => ?_) hb.2
    have h4 := h2 j hj
    cases e : nmP T s j with
    | false => rfl
    | true =>
      rw [nmP_iff] at e
      simp only [e, ltS_irrefl] at h4
      cases h4
  · rw [if_neg hb]
    refine fstI_none fun j hj => ?_
    cases e : nmP T s j with
    | false => rfl
    | true =>
      exfalso
      apply hb
      have e' := nmP_iff.1 e
      have : fdK T n s = j := lead_eq (by omega) (fun i hi => by rw [← e']; exact bd_lt h hi hj) (.inr (by rw [e']; exact ltS_irrefl s))
      simp only [fdB, Bool.and_eq_true, decide_eq_true_eq, this]
      exact ⟨hj, e⟩
set_option maxHeartbeats 800000 in
theorem findTeam1_any (T : Tm) (vc : Value) (s : ByteArray) (p : Nat) (w : World) (hp : w.cell? ⟨p, 0, none⟩ = some (.string s)) (lp : p < w.heap.size) (hc : ∃ A n c, vc = .slice A n c) :
    Calls Try.prog 75 #[.agg #[.string T.s, .int .i64 T.v, .int .i64 T.y, vc], .pointer (some ⟨p, 0, none⟩)] w fun e w' => e = .returned (.bool (T.s.toList == s.toList)) ∧ Below w.heap.size w w' := by
  obtain ⟨A, n, c, rfl⟩ := hc
  go_enter Try.func75, Try.ntmps75
  go_wp2_with fail
  go_ret
  exact ⟨rfl, (by repeat (first | (with_reducible exact Below.refl _ _) | (with_reducible refine below_ov ?_ ?_) | (with_reducible refine Below.setCell ?_ ?_ _) | (with_reducible refine Below.alloc ?_ ?_ _) | (with_reducible refine Below.drew ?_) | (with_reducible refine below_drewN ?_ _) | (refine Below.trans ?_ (Below.mono ‹Below _ _ _› (by first | omega | (simp; done) | (simp; omega)))) | exact Below.refl _ _ | omega | (focus (simp; done)) | (focus (simp; omega))))⟩
set_option maxRecDepth 100000 in
set_option maxHeartbeats 1600000 in
theorem IndexFuncT_any (T : Nat → Tm) (n : Nat) (s : ByteArray) (lo hi p : Nat) (v : Value) (w : World) (hv : SlT w lo hi v n T) (hhi : hi ≤ w.heap.size) (hn : n ≤ 1048576)
    (hp : w.cell? ⟨p, 0, none⟩ = some (.string s)) (lp : p < w.heap.size) :
    Calls Try.prog 74 #[v, .func (.func 75) #[] #[.pointer (some ⟨p, 0, none⟩)]] w fun e w' => e = .returned (.int .i64 (fstI (nmP T s) n)) ∧ Below w.heap.size w w' := by
  obtain ⟨A, cap, rfl, hcap⟩ := hv.open_
  go_enter Try.func74, Try.ntmps74
  go_wp2_with fail
  go_loopw [8] (fun i wr => ∃ k : Nat, k ≤ n ∧ i = .int .i64 k ∧ Hid (∀ j, j < k → nmP T s j = false) ∧ Below w.heap.size w wr) (fun i _ => n - (intOf i).toNat)
  case atStart => exact ⟨0, by omega, rfl, fun j hj => by omega, Below.refl _ _⟩
  case round =>
    obtain ⟨k, hk, rfl, hj, hb⟩ := hrel
    have hzr := hb.size
    by_cases hkn : k < n
    · obtain ⟨blk, off, dk, rfl, h1, h2, h3⟩ := (hv.below hb hhi).at_ (by omega) (by omega)
      obtain ⟨t1, t2, t3, t4, t5, t6, t7⟩ := h3 k hkn
      clear h3
      obtain ⟨Ak, ckk, ek, _, _⟩ := t6.open_
      rw [ek] at t5
      clear t6
      have HP := hide ((hb.cell (p := ⟨p, 0, none⟩) lp).trans hp)
      cases e1 : nmP T s k with
      | false =>
        have HG := hide e1
        have e2 : ((T k).s.toList == s.toList) = false := e1
        go_wp2_with (go_at_call 75; refine (findTeam1_any (T k) _ s p _ HP.out (by omega) ⟨_, _, _, rfl⟩).mono ?_; rintro e w1 ⟨rfl, hb1⟩; have hz1 := hb1.size; (try (simp at hz1)); obtain ⟨hcw1, hfw1⟩ := bcell hb1; (try (have hy1 : w.heap.size < w1.heap.size := by omega)); (try (have hyy1 : w.heap.size + 1 < w1.heap.size := by omega)); (try (have hyyy1 : w.heap.size + 1 + 1 < w1.heap.size := by omega)))
        go_roundw
        case rel => exact ⟨k + 1, by omega, by go_num, upto_snocF hj.out HG.out, (by repeat (first | (with_reducible exact Below.refl _ _) | (with_reducible refine below_ov ?_ ?_) | (with_reducible refine Below.setCell ?_ ?_ _) | (with_reducible refine Below.alloc ?_ ?_ _) | (with_reducible refine Below.drew ?_) | (with_reducible refine below_drewN ?_ _) | (refine Below.trans ?_ (Below.mono ‹Below _ _ _› (by first | omega | (simp; done) | (simp; omega)))) | exact Below.refl _ _ | omega | (focus (simp; done)) | (focus (simp; omega))))⟩
        case measure => simp [intOf]; omega
      | true =>
        have HG : Hid (fstI (nmP T s) n = k) := fstI_at hkn hj.out e1
        have e2 : ((T k).s.toList == s.toList) = true := e1
        go_wp2_with (go_at_call 75; refine (findTeam1_any (T k) _ s p _ HP.out (by omega) ⟨_, _, _, rfl⟩).mono ?_; rintro e w1 ⟨rfl, hb1⟩; have hz1 := hb1.size; (try (simp at hz1)); obtain ⟨hcw1, hfw1⟩ := bcell hb1; (try (have hy1 : w.heap.size < w1.heap.size := by omega)); (try (have hyy1 : w.heap.size + 1 < w1.heap.size := by omega)); (try (have hyyy1 : w.heap.size + 1 + 1 < w1.heap.size := by omega)))
        go_ret
        exact ⟨ret_int HG.out.symm, (by repeat (first | (with_reducible exact Below.refl _ _) | (with_reducible refine below_ov ?_ ?_) | (with_reducible refine Below.setCell ?_ ?_ _) | (with_reducible refine Below.alloc ?_ ?_ _) | (with_reducible refine Below.drew ?_) | (with_reducible refine below_drewN ?_ _) | (refine Below.trans ?_ (Below.mono ‹Below _ _ _› (by first | omega | (simp; done) | (simp; omega)))) | exact Below.refl _ _ | omega | (focus (simp; done)) | (focus (simp; omega))))⟩
    · obtain rfl : k = n := by omega
      go_wp2_with fail
      go_ret
      exact ⟨ret_int (fstI_none hj.out).symm, hb⟩
set_option maxRecDepth 100000 in
set_option maxHeartbeats 1600000 in
theorem findTeam_any (T : Nat → Tm) (n : Nat) (s : ByteArray) (lo hi : Nat) (v : Value) (w : World) (hv : SlT w lo hi v n T) (hhi : hi ≤ w.heap.size) (hn : n ≤ 1048576) :
    Calls Try.prog 46 #[v, .string s] w fun e w' => e = .returned (.int .i64 (fstI (nmP T s) n)) ∧ Below w.heap.size w w' := by
  go_enter Try.func46, Try.ntmps46
  go_wp2_with fail
  refine (IndexFuncT_any T n s lo hi _ _ _ (hv.below (B := w.heap.size) (by repeat (first | (with_reducible exact Below.refl _ _) | (with_reducible refine below_ov ?_ ?_) | (with_reducible refine Below.setCell ?_ ?_ _) | (with_reducible refine Below.alloc ?_ ?_ _) | (with_reducible refine Below.drew ?_) | (with_reducible refine below_drewN ?_ _) | (refine Below.trans ?_ (Below.mono ‹Below _ _ _› (by first | omega | (simp; done) | (simp; omega)))) | exact Below.refl _ _ | omega | (focus (simp; done)) | (focus (simp; omega)))) hhi) (by simp <;> omega) hn (World.cell?_alloc_new _ _ _ _) (by simp <;> omega)).mono ?_
  rintro e w1 ⟨rfl, hb1⟩
  have hz1 := hb1.size
  go_wp2_with fail
  go_ret
  exact ⟨rfl, (by repeat (first | (with_reducible exact Below.refl _ _) | (with_reducible refine below_ov ?_ ?_) | (with_reducible refine Below.setCell ?_ ?_ _) | (with_reducible refine Below.alloc ?_ ?_ _) | (with_reducible refine Below.drew ?_) | (with_reducible refine below_drewN ?_ _) | (refine Below.trans ?_ (Below.mono ‹Below _ _ _› (by first | omega | (simp; done) | (simp; omega)))) | exact Below.refl _ _ | omega | (focus (simp; done)) | (focus (simp; omega))))⟩
set_option maxRecDepth 100000 in
set_option maxHeartbeats 1600000 in
theorem enFind_any (T : Nat → Tm) (n : Nat) (s : ByteArray) (lo hi : Nat) (v : Value) (w : World) (hv : SlT w lo hi v n T) (hhi : hi ≤ w.heap.size) (hn : n ≤ 1048576) :
    Calls Try.prog 42 #[v, .string s] w fun e w' => e = .returned (.tuple #[.int .i64 (fdK T n s), .bool (fdB T n s)]) ∧ Below w.heap.size w w' := by
  obtain ⟨A, cap, rfl, hcap⟩ := hv.open_
  go_enter Try.func42, Try.ntmps42
  go_wp2_with fail
  go_loopw [6] (fun i wr => ∃ k : Nat, k ≤ n ∧ i = .int .i64 k ∧ Hid (∀ j, j < k → ltS (T j).s s = true) ∧ wr = w) (fun i _ => n - (intOf i).toNat)
  case atStart => exact ⟨0, by omega, rfl, fun j hj => by omega, rfl⟩
  case round =>
    obtain ⟨k, hk, rfl, hj, rfl⟩ := hrel
    by_cases hkn : k < n
    · obtain ⟨blk, off, dk, rfl, h1, h2, h3⟩ := hv.at_ hhi (by omega)
      have t1 := (h3 k hkn).c0
      have l0 : blk < wr.heap.size := by omega
      clear h3
      cases e1 : Op.bytesLess (T k).s.toList s.toList with
      | true =>
        have HG : Hid (ltS (T k).s s = true) := e1
        go_wp2_with fail
        go_roundw
        case rel => exact ⟨k + 1, by omega, by go_num, upto_snoc hj.out HG.out, by trivial⟩
        case measure => simp [intOf]; omega
      | false =>
        have HK : Hid (fdK T n s = k) := lead_eq hk hj.out (.inr e1)
        have d1 : decide ((k : Int) < (n : Int)) = true := decide_eq_true (by omega)
        cases e2 : ((T k).s.toList == s.toList) with
        | true =>
          have HB : Hid (fdB T n s = true) := by show _ = _; rw [fdB, HK.out]; simp [hkn, nmP, e2]
          go_wp2_with fail
          go_quiet (fail)
          go_wp2
          go_ret2
          rw [HB.out, HK.out]
          exact ⟨rfl, (by repeat (first | (with_reducible exact Below.refl _ _) | (with_reducible refine below_ov ?_ ?_) | (with_reducible refine Below.setCell ?_ ?_ _) | (with_reducible refine Below.alloc ?_ ?_ _) | (with_reducible refine Below.drew ?_) | (with_reducible refine below_drewN ?_ _) | (refine Below.trans ?_ (Below.mono ‹Below _ _ _› (by first | omega | (simp; done) | (simp; omega)))) | exact Below.refl _ _ | omega | (focus (simp; done)) | (focus (simp; omega))))⟩
        | false =>
          have HB : Hid (fdB T n s = false) := by show _ = _; rw [fdB, HK.out]; simp [nmP, e2]
          go_wp2_with fail
          go_quiet (fail)
          go_wp2
          go_ret2
          rw [HB.out, HK.out]
          exact ⟨rfl, (by repeat (first | (with_reducible exact Below.refl _ _) | (with_reducible refine below_ov ?_ ?_) | (with_reducible refine Below.setCell ?_ ?_ _) | (with_reducible refine Below.alloc ?_ ?_ _) | (with_reducible refine Below.drew ?_) | (with_reducible refine below_drewN ?_ _) | (refine Below.trans ?_ (Below.mono ‹Below _ _ _› (by first | omega | (simp; done) | (simp; omega)))) | exact Below.refl _ _ | omega | (focus (simp; done)) | (focus (simp; omega))))⟩
    · obtain rfl : k = n := by omega
      have HK : Hid (fdK T k s = k) := lead_eq hk hj.out (.inl rfl)
      have HB : Hid (fdB T k s = false) := by show _ = _; rw [fdB, HK.out]; simp
      have d1 : decide ((k : Int) < (k : Int)) = false := decide_eq_false (by omega)
      go_wp2_with fail
      go_quiet (fail)
      go_wp2
      go_ret2
      rw [HB.out, HK.out]
      exact ⟨rfl, (by repeat (first | (with_reducible exact Below.refl _ _) | (with_reducible refine below_ov ?_ ?_) | (with_reducible refine Below.setCell ?_ ?_ _) | (with_reducible refine Below.alloc ?_ ?_ _) | (with_reducible refine Below.drew ?_) | (with_reducible refine below_drewN ?_ _) | (refine Below.trans ?_ (Below.mono ‹Below _ _ _› (by first | omega | (simp; done) | (simp; omega)))) | exact Below.refl _ _ | omega | (focus (simp; done)) | (focus (simp; omega))))⟩

end Go.Proofs.Ytnfhgnibjebmlaa

/-
  Walks: a team leaves: the program.-/
namespace Go.Proofs.Ytnfhgnibjebmlaa
set_option linter.unusedVariables false
set_option linter.unusedSimpArgs false
open Go.RowKit

def lvOk (T : Nat → Tm) (n : Nat) (s : ByteArray) : Bool := bdB T n && fdB T n s
def lvN (T : Nat → Tm) (n : Nat) (s : ByteArray) : Nat := if lvOk T n s = true then n - 1 else 0
def lvT (T : Nat → Tm) (n : Nat) (s : ByteArray) (i : Nat) : Tm := T (skp (fdK T n s) i)
theorem lvN_le {T : Nat → Tm} {n : Nat} {s : ByteArray} (hf : tfits T n) : lvN T n s ≤ n := by
  unfold lvN
  split <;> omega
theorem lvT_fits {T : Nat → Tm} {n : Nat} {s : ByteArray} (hf : tfits T n) : tfits (lvT T n s) (lvN T n s) := by
  refine ⟨Nat.le_trans (lvN_le hf) hf.1, fun i hi => hf.2 _ ?_⟩
  unfold lvN at hi
  split at hi
  · have := skp_le (k := fdK T n s) hi
    omega
  · omega
theorem bd_pos {T : Nat → Tm} {n : Nat} (h : bdB T n = true) : ∀ i, i < n → 0 < (T i).n := fun i hi => by
  have := (tm_facts ((bd_facts h).2 i hi).1).2.2.2.1
  omega
theorem fdB_lt {T : Nat → Tm} {n : Nat} {s : ByteArray} (h : fdB T n s = true) : fdK T n s < n := by
  simp only [fdB, Bool.and_eq_true, decide_eq_true_eq] at h
  exact h.1
/-- What the call hands back. -/
def BrdRes (T : Nat → Tm) (n : Nat) (ok : Bool) (w : World) (e : Ending) (w' : World) : Prop := ∃ v', e = .returned (.tuple #[v', .bool ok]) ∧ OwnT w' w.heap.size w'.heap.size v' n T ∧ Below w.heap.size w w'
theorem brd_nil {T : Nat → Tm} {n : Nat} {w w' : World} (h : n = 0) (hb : Below w.heap.size w w') : BrdRes T n false w (.returned (.tuple #[.slice none 0 0, .bool false])) w' :=
  ⟨_, rfl, by rw [h]; exact OwnT.nil_ _ _ _ _, hb⟩
set_option maxRecDepth 100000 in
set_option maxHeartbeats 3200000 in
theorem LeaveTeam_impl (T : Nat → Tm) (n : Nat) (s : ByteArray) (lo hi : Nat) (v : Value) (w : World) (hv : SlT w lo hi v n T) (hhi : hi ≤ w.heap.size) (hf : tfits T n) (hms : s.size ≤ maxLen) :
    Calls Try.prog 9 #[v, .string s] w (BrdRes (lvT T n s) (lvN T n s) (lvOk T n s) w) := by
  obtain ⟨A, cap, rfl, hcap⟩ := hv.open_
  have hn : n ≤ 1048576 := hf.1
  cases hB : bdB T n with
  | false =>
    have HF : Hid (lvOk T n s = false) := by show _ = _; simp [lvOk, hB]
    have HN : Hid (lvN T n s = 0) := by show _ = _; rw [lvN, HF.out]; rfl
    go_enter Try.func9, Try.ntmps9
    go_wp2_with fail
    refine (findTeam_any T n s lo hi _ _ (hv.below (B := w.heap.size) (by repeat (first | (with_reducible exact Below.refl _ _) | (with_reducible refine below_ov ?_ ?_) | (with_reducible refine Below.setCell ?_ ?_ _) | (with_reducible refine Below.alloc ?_ ?_ _) | (with_reducible refine Below.drew ?_) | (with_reducible refine below_drewN ?_ _) | (refine Below.trans ?_ (Below.mono ‹Below _ _ _› (by first | omega | (simp; done) | (simp; omega)))) | exact Below.refl _ _ | omega | (focus (simp; done)) | (focus (simp; omega)))) hhi) hhi hn).mono ?_
    rintro e w1 ⟨rfl, hb1⟩
    have hz1 := hb1.size
    go_wp2_with fail
    refine (isBoard_any T n lo hi _ _ (hv.below (B := w.heap.size) (by repeat (first | (with_reducible exact Below.refl _ _) | (with_reducible refine below_ov ?_ ?_) | (with_reducible refine Below.setCell ?_ ?_ _) | (with_reducible refine Below.alloc ?_ ?_ _) | (with_reducible refine Below.drew ?_) | (with_reducible refine below_drewN ?_ _) | (refine Below.trans ?_ (Below.mono ‹Below _ _ _› (by first | omega | (simp; done) | (simp; omega)))) | exact Below.refl _ _ | omega | (focus (simp; done)) | (focus (simp; omega)))) hhi) (by first | omega | (simp; done) | (simp; omega)) hf).mono ?_
    rintro e w2 ⟨rfl, hb2⟩
    have hz2 := hb2.size
    rw [hB]
    go_wp2_with fail
    go_ret2
    rw [HF.out]
    exact brd_nil HN.out (by repeat (first | (with_reducible exact Below.refl _ _) | (with_reducible refine below_ov ?_ ?_) | (with_reducible refine Below.setCell ?_ ?_ _) | (with_reducible refine Below.alloc ?_ ?_ _) | (with_reducible refine Below.drew ?_) | (with_reducible refine below_drewN ?_ _) | (refine Below.trans ?_ (Below.mono ‹Below _ _ _› (by first | omega | (simp; done) | (simp; omega)))) | exact Below.refl _ _ | omega | (focus (simp; done)) | (focus (simp; omega))))
  | true =>
    have HB := hide hB
    cases hF : fdB T n s with
    | false =>
      have HF : Hid (lvOk T n s = false) := by show _ = _; simp [lvOk, hF]
      have HN : Hid (lvN T n s = 0) := by show _ = _; rw [lvN, HF.out]; rfl
      have HA : Hid (fstI (nmP T s) n = -1) := by show _ = _; rw [fd_eq HB.out, hF]; rfl
      go_enter Try.func9, Try.ntmps9
      go_wp2_with fail
      refine (findTeam_any T n s lo hi _ _ (hv.below (B := w.heap.size) (by repeat (first | (with_reducible exact Below.refl _ _) | (with_reducible refine below_ov ?_ ?_) | (with_reducible refine Below.setCell ?_ ?_ _) | (with_reducible refine Below.alloc ?_ ?_ _) | (with_reducible refine Below.drew ?_) | (with_reducible refine below_drewN ?_ _) | (refine Below.trans ?_ (Below.mono ‹Below _ _ _› (by first | omega | (simp; done) | (simp; omega)))) | exact Below.refl _ _ | omega | (focus (simp; done)) | (focus (simp; omega)))) hhi) hhi hn).mono ?_
      rintro e w1 ⟨rfl, hb1⟩
      have hz1 := hb1.size
      rw [HA.out]
      go_wp2_with fail
      refine (isBoard_any T n lo hi _ _ (hv.below (B := w.heap.size) (by repeat (first | (with_reducible exact Below.refl _ _) | (with_reducible refine below_ov ?_ ?_) | (with_reducible refine Below.setCell ?_ ?_ _) | (with_reducible refine Below.alloc ?_ ?_ _) | (with_reducible refine Below.drew ?_) | (with_reducible refine below_drewN ?_ _) | (refine Below.trans ?_ (Below.mono ‹Below _ _ _› (by first | omega | (simp; done) | (simp; omega)))) | exact Below.refl _ _ | omega | (focus (simp; done)) | (focus (simp; omega)))) hhi) (by first | omega | (simp; done) | (simp; omega)) hf).mono ?_
      rintro e w2 ⟨rfl, hb2⟩
      have hz2 := hb2.size
      rw [hB]
      go_wp2_with fail
      go_ret2
      rw [HF.out]
      exact brd_nil HN.out (by repeat (first | (with_reducible exact Below.refl _ _) | (with_reducible refine below_ov ?_ ?_) | (with_reducible refine Below.setCell ?_ ?_ _) | (with_reducible refine Below.alloc ?_ ?_ _) | (with_reducible refine Below.drew ?_) | (with_reducible refine below_drewN ?_ _) | (refine Below.trans ?_ (Below.mono ‹Below _ _ _› (by first | omega | (simp; done) | (simp; omega)))) | exact Below.refl _ _ | omega | (focus (simp; done)) | (focus (simp; omega))))
    | true =>
      have HE : Hid (lvOk T n s = true) := by show _ = _; simp [lvOk, hF, HB.out]
      have hkn := fdB_lt hF
      obtain ⟨k, hk⟩ : ∃ k, k = fdK T n s := ⟨_, rfl⟩
      rw [← hk] at hkn
      obtain ⟨d, rfl⟩ : ∃ d, n = k + d + 1 := ⟨n - 1 - k, by omega⟩
      have HN : Hid (lvN T (k + d + 1) s = k + d) := by show _ = _; rw [lvN, HE.out]; simp
      have HT : Hid (lvT T (k + d + 1) s = fun i => T (skp k i)) := by show _ = _; funext i; rw [lvT, ← hk]
      have HA : Hid (fstI (nmP T s) (k + d + 1) = (k : Int)) := by show _ = _; rw [fd_eq HB.out, hF, ← hk]; rfl
      have hn6 := (bd_facts HB.out).1
      clear hk hF
      go_enter Try.func9, Try.ntmps9
      go_wp2_with fail
      refine (findTeam_any T _ s lo hi _ _ (hv.below (B := w.heap.size) (by repeat (first | (with_reducible exact Below.refl _ _) | (with_reducible refine below_ov ?_ ?_) | (with_reducible refine Below.setCell ?_ ?_ _) | (with_reducible refine Below.alloc ?_ ?_ _) | (with_reducible refine Below.drew ?_) | (with_reducible refine below_drewN ?_ _) | (refine Below.trans ?_ (Below.mono ‹Below _ _ _› (by first | omega | (simp; done) | (simp; omega)))) | exact Below.refl _ _ | omega | (focus (simp; done)) | (focus (simp; omega)))) hhi) hhi hn).mono ?_
      rintro e w1 ⟨rfl, hb1⟩
      have hz1 := hb1.size
      rw [HA.out]
      go_wp2_with fail
      refine (isBoard_any T _ lo hi _ _ (hv.below (B := w.heap.size) (by repeat (first | (with_reducible exact Below.refl _ _) | (with_reducible refine below_ov ?_ ?_) | (with_reducible refine Below.setCell ?_ ?_ _) | (with_reducible refine Below.alloc ?_ ?_ _) | (with_reducible refine Below.drew ?_) | (with_reducible refine below_drewN ?_ _) | (refine Below.trans ?_ (Below.mono ‹Below _ _ _› (by first | omega | (simp; done) | (simp; omega)))) | exact Below.refl _ _ | omega | (focus (simp; done)) | (focus (simp; omega)))) hhi) (by first | omega | (simp; done) | (simp; omega)) hf).mono ?_
      rintro e w2 ⟨rfl, hb2⟩
      have hz2 := hb2.size
      rw [hB]
      go_wp2_with fail
      refine (copyBoard_any T _ lo hi _ _ (hv.below (B := w.heap.size) (by repeat (first | (with_reducible exact Below.refl _ _) | (with_reducible refine below_ov ?_ ?_) | (with_reducible refine Below.setCell ?_ ?_ _) | (with_reducible refine Below.alloc ?_ ?_ _) | (with_reducible refine Below.drew ?_) | (with_reducible refine below_drewN ?_ _) | (refine Below.trans ?_ (Below.mono ‹Below _ _ _› (by first | omega | (simp; done) | (simp; omega)))) | exact Below.refl _ _ | omega | (focus (simp; done)) | (focus (simp; omega)))) hhi) (by first | omega | (simp; done) | (simp; omega)) hf (bd_pos HB.out)).mono ?_
      rintro e w3 ⟨v3, rfl, ⟨γ, β, ck, hx, hin⟩, hb3⟩
      have hz3 := hb3.size
      obtain ⟨A3, c3, rfl, hc3, hA3⟩ := hx.own.open_
      obtain ⟨g, rfl, g1, g2⟩ := hA3 (by omega)
      obtain rfl : γ = g := by omega
      have hg := hin.1 (by omega)
      have hc1 : ∀ i, i < k + d + 1 → (ck i).oneCell' = true := fun i hi => by
        obtain ⟨_, _, e, _⟩ := (hx.sub i hi).open_
        rw [e]; rfl
      have HX := hide hx
      have HIn := hide hin
      have HC := hide hc1
      clear hx hin hc1 hA3
      go_wp2_with fail
      refine (DeleteTeam_any T k d γ c3 β ck _ HX.out hn6 (by omega) HC.out).mono ?_
      rintro e w4 ⟨rfl, hX4, hO4⟩
      have hz4 := hO4.size
      have HX4 := hide hX4
      clear hX4
      go_wp2_with fail
      go_ret2
      rw [HE.out, HN.out, HT.out]
      refine ⟨_, rfl, ⟨γ, _, _, HX4.out, fun _ => by omega, fun i hi => ?_⟩, ?_⟩
      · have := HIn.out.2 _ (skp_le (k := k) hi)
        show w.heap.size ≤ β (skp k i) ∧ β (skp k i) < _
        omega
      · have hb03 : Below w.heap.size w w3 := (by repeat (first | (with_reducible exact Below.refl _ _) | (with_reducible refine below_ov ?_ ?_) | (with_reducible refine Below.setCell ?_ ?_ _) | (with_reducible refine Below.alloc ?_ ?_ _) | (with_reducible refine Below.drew ?_) | (with_reducible refine below_drewN ?_ _) | (refine Below.trans ?_ (Below.mono ‹Below _ _ _› (by first | omega | (simp; done) | (simp; omega)))) | exact Below.refl _ _ | omega | (focus (simp; done)) | (focus (simp; omega))))
        exact hb03.trans (hO4.below (by omega) (by omega))

end Go.Proofs.Ytnfhgnibjebmlaa
