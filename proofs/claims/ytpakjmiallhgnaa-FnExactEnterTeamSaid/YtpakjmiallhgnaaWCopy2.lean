/-
  Walks: copies of a board that share no memory.
-/
import Derived.Test.YtpakjmiallhgnaaWCopy
namespace Go.Proofs.Ytpakjmiallhgnaa
set_option linter.unusedVariables false
set_option linter.unusedSimpArgs false
open Go.RowKit

section
variable {w w' : World} {lo lo' k n : Nat} {β : Nat → Nat} {ck : Nat → Value} {T : Nat → Tm} {v : Value} {xs : List Value}
theorem Subs.keepB (h : Subs w lo β ck T k) (hz : w.heap.size ≤ w'.heap.size) (hk : ∀ i, i < k → w'.heap[β i]? = w.heap[β i]?) : Subs w' lo β ck T k :=
  ⟨fun i hi => by
    obtain ⟨a, b, c⟩ := h.1 i hi
    exact ⟨a.keep1 (hk _ hi), b, by omega⟩, h.2⟩
/-- An inner slice does not lie in the outer one's block. -/
theorem Subs.apart (h : Subs w lo β ck T k) (hn : ∀ i, i < k → 0 < (T i).n) (ho : w.ownsRow lo' 40 4 v n xs) {g : Nat} (hg : v.ownBlock = some g) : ∀ i, i < k → β i ≠ g := fun i hi e => by
  obtain ⟨a, _, _⟩ := h.1 i hi
  rcases a with ⟨h0, _⟩ | ⟨g1, cap, ys, h0, h1, h2, h3, ⟨_, h4⟩, _⟩
  · have := hn i hi; omega
  obtain rfl : g1 = β i := by omega
  rcases h4 with ⟨h4, _⟩ | ⟨x, _, cur, he, _, hh, _⟩
  · rw [h0] at h4; cases h4
  rw [h0] at he
  injection he with e1 _ _
  injection e1 with e1
  injection e1 with e1
  rcases ho.2 with ⟨h5, _⟩ | ⟨y, _, cur', he', _, hh', _⟩
  · rw [h5] at hg; cases hg
  rw [he'] at hg
  injection hg with hg
  have hg : y = g := hg
  rw [← e1] at hh
  rw [hg, ← e] at hh'
  rw [hh] at hh'
  injection hh' with hh'
  injection hh' with _ e3 _
  exact absurd e3 (by decide)
theorem rowL_tm {T : Nat → Tm} {ck : Nat → Value} {k : Nat} (u : Value) : rowL (tC T ck) 4 k ++ [.string (T k).s, .int .i64 (T k).v, .int .i64 (T k).y, u] = rowL (tC T (fun i => if i = k then u else ck i)) 4 (k + 1) := by
  rw [rowL]
  congr 1
  · exact rowL_congr fun i j hi hj => tC_upd i j hi hj
  · simp [List.range, List.range.loop, tC]
/-- The end of a copy: a board of the call's own. -/
theorem Subs.board (h : Subs w lo β ck T n) (hn : ∀ i, i < n → 0 < (T i).n) (ho : w.ownsRow lo 40 4 v n (rowL (tC T ck) 4 n)) : OwnT w lo w.heap.size v n T := by
  have h1 := (own_row ho).lf (by omega)
  rcases Nat.eq_zero_or_pos n with h0 | h0
  · subst h0
    obtain ⟨A, cap, rfl⟩ := row_form ho
    exact h.ownT (γ := 0) (.inl ⟨rfl, A, cap, rfl⟩) (fun i hi => absurd hi (Nat.not_lt_zero _)) (fun h => absurd h (Nat.lt_irrefl _)) (Nat.le_refl _) (Nat.le_refl _)
  · have hlt : lo < w.heap.size := by
      have := (h.1 0 h0).2
      omega
    obtain ⟨γ, g1, g2, g3⟩ := h1.pin hlt
    exact h.ownT g3 (fun i hi => OwnL.apart (h.1 i hi).1 g3 (hn i hi) h0 (by decide)) (fun _ => ⟨g1, g2⟩) (Nat.le_refl _) (Nat.le_refl _)
end
theorem tm_one {s : ByteArray} {a b : Int} {A : Option Addr} {n c : Nat} {u : Value} (h : u ∈ [Value.string s, .int .i64 a, .int .i64 b, .slice A n c]) : u.oneCell' = true := by
  simp at h
  rcases h with rfl | rfl | rfl | rfl <;> rfl
set_option maxRecDepth 100000 in
set_option maxHeartbeats 3200000 in
theorem copyBoard_raw (T : Nat → Tm) (n lo hi : Nat) (v : Value) (w : World) (hv : SlT w lo hi v n T) (hhi : hi ≤ w.heap.size) (hf : tfits T n) (hp : ∀ i, i < n → 0 < (T i).n) :
    Calls Try.prog 65 #[v] w fun e w' => ∃ (v' : Value) (β : Nat → Nat) (ck : Nat → Value), e = .returned v' ∧ w'.ownsRow w.heap.size 40 4 v' n (rowL (tC T ck) 4 n) ∧ Subs w' w.heap.size β ck T n ∧ Below w.heap.size w w' := by
  obtain ⟨A, cap, rfl, hcap⟩ := hv.open_
  obtain ⟨hn, hfit⟩ := hf
  obtain ⟨ii, hii, iz0, iz1, iz2⟩ := info_parts infoTeam
  have HP := hide hp
  have HF := hide hfit
  clear hp hfit
  go_enter Try.func65, Try.ntmps65
  go_wp2_with fail
  go_loopw [3, 8] (fun o i wr => ∃ (k : Nat) (β : Nat → Nat) (ck : Nat → Value) (B : Option Addr) (cp : Nat), k ≤ n ∧ i = .int .i64 k ∧ o = .slice B k cp ∧ Hid (wr.ownsRow w.heap.size 40 4 (.slice B k cp) k (rowL (tC T ck) 4 k)) ∧ Hid (Subs wr w.heap.size β ck T k) ∧ Below w.heap.size w wr) (fun _ i _ => n - (intOf i).toNat)
  case atStart => exact ⟨0, fun _ => 0, fun _ => .slice none 0 0, none, 0, by omega, rfl, rfl, World.ownsRow_nil _ _ _ _, Subs.zero _ _ _ _ _, Below.refl _ _⟩
  case round =>
    obtain ⟨k, β, ck, B, cp, hk, rfl, rfl, hown, hsub, hb⟩ := hrel
    have hzr := hb.size
    by_cases hkn : k < n
    · obtain ⟨blk, off, dk, rfl, h1, h2, h3⟩ := (hv.below hb hhi).at_ (by omega) (by omega)
      obtain ⟨t1, t2, t3, t4, t5, t6, t7⟩ := h3 k hkn
      clear h3
      have HC := hide (HF.out k hkn)
      have hpk := HP.out k hkn
      obtain ⟨Ak, ckk, ek, _, _⟩ := t6.open_
      rw [ek] at t5 t6
      clear ek
      have T6 := hide t6
      clear t6
      go_wp2_with fail
      refine (copyTeam_any (T k) lo hi _ _ (T6.out.below (B := wr.heap.size) (by repeat (first | (with_reducible exact Below.refl _ _) | (with_reducible refine below_ov ?_ ?_) | (with_reducible refine Below.setCell ?_ ?_ _) | (with_reducible refine Below.alloc ?_ ?_ _) | (with_reducible refine Below.drew ?_) | (with_reducible refine below_drewN ?_ _) | (refine Below.trans ?_ (Below.mono ‹Below _ _ _› (by first | omega | (simp; done) | (simp; omega)))) | exact Below.refl _ _ | omega | (focus (simp; done)) | (focus (simp; omega)))) (by omega)) (by first | omega | (simp; done) | (simp; omega)) hpk HC.out).mono ?_
      rintro e w2 ⟨u, rfl, hou, hgr2, hb2⟩
      have hz2 := hb2.size
      (try (simp at hz2))
      (try (simp at hgr2))
      obtain ⟨Au, cu, rfl, hcu, _⟩ := hou.sl.open_
      have HU := hide hou
      have ho2 := hide (row_below (hown.out.alloc _) hb2 (Nat.le_refl _))
      have hs2 : Hid (Subs w2 w.heap.size β ck T k) := hsub.out.below (B := wr.heap.size) (((Below.refl _ _).alloc (Nat.le_refl _) _).trans (hb2.mono (by simp))) (Nat.le_refl _)
      clear hou hown
      go_wp2_with (at_builtin; refine wpList_append_two _ rfl _ _ 24 rfl w.heap.size 40 ii (.agg #[.string ⟨#[]⟩, .int .i64 0, .int .i64 0, .slice none 0 0]) 4 56 Try.underlying24 hii iz0 iz1 iz2 rfl (by decide) _ _ _ rfl (ho2.out.alloc _) ⟨w2.heap.size, 0, none⟩ 1 1 [.string (T k).s, .int .i64 (T k).v, .int .i64 (T k).y, .slice Au (T k).n cu] rfl rfl ?_ (fun u hu => tm_one hu) (by omega) ?_ ?_ ?_)
      · intro i u hu
        match i, hu with
        | 0, hu => simp at hu; subst hu; simp [go_sem, Addr.add]
        | 1, hu => simp at hu; subst hu; simp [go_sem, Addr.add]
        | 2, hu => simp at hu; subst hu; simp [go_sem, Addr.add]
        | 3, hu => simp at hu; subst hu; simp [go_sem, Addr.add]
      · unfold maxLen; omega
      · omega
      intro v' w7 hcase
      have hb2w : Below w.heap.size w w2 := (by repeat (first | (with_reducible exact Below.refl _ _) | (with_reducible refine below_ov ?_ ?_) | (with_reducible refine Below.setCell ?_ ?_ _) | (with_reducible refine Below.alloc ?_ ?_ _) | (with_reducible refine Below.drew ?_) | (with_reducible refine below_drewN ?_ _) | (refine Below.trans ?_ (Below.mono ‹Below _ _ _› (by first | omega | (simp; done) | (simp; omega)))) | exact Below.refl _ _ | omega | (focus (simp; done)) | (focus (simp; omega))))
      have hfin : Hid (w7.ownsRow w.heap.size 40 4 v' (k + 1) (rowL (tC T (fun i => if i = k then .slice Au (T k).n cu else ck i)) 4 (k + 1)) ∧ Below w.heap.size w w7 ∧ w2.heap.size < w7.heap.size ∧ ∀ b, b < w2.heap.size → (.slice B k cp : Value).ownBlock ≠ some b → w7.heap[b]? = w2.heap[b]?) := by
        show _ ∧ _
        rw [← rowL_tm]
        rcases hcase with ⟨_, r1, r2⟩ | ⟨r1, r2⟩
        · refine ⟨r1, (hb2w.alloc (by omega) _).grown r2 (by simp; omega) (fun g hg => (ho2.out.lt g hg).1), by have := r2.size; simp at this; omega, fun b h1 h2 => ?_⟩
          rw [r2.block b (by simp; omega) (fun e => h2 e.symm)]
          exact Deep.blk_alloc_lt _ _ _ h1
        · refine ⟨r1.mono (by first | omega | (simp; omega)), (hb2w.alloc (by omega) _).grown r2 (by simp; omega) (fun g hg => by cases hg), by have := r2.size; simp at this; omega, fun b h1 h2 => ?_⟩
          rw [r2.block b (by simp; omega) (fun e => by cases e)]
          exact Deep.blk_alloc_lt _ _ _ h1
      clear hcase
      obtain ⟨B2, cp2, rfl⟩ := row_form hfin.out.1
      go_wp2_with fail
      go_roundw
      case rel =>
        obtain ⟨hr, hbw, hzz, hkeep⟩ := hfin.out
        obtain ⟨b, hb0, hb9, hOL⟩ := (HU.out.lf (by omega)).pin (by first | omega | (simp; omega))
        (try (simp at hb0))
        have hap : ∀ i, i < k → w7.heap[β i]? = w2.heap[β i]? := fun i hi => hkeep _ (hs2.out.1 i hi).2.2 fun e => Subs.apart hs2.out (fun i hi => HP.out i (by omega)) ho2.out e i hi rfl
        have hbk : w7.heap[b]? = w2.heap[b]? := hkeep b hb9 fun e => by
          have := hsub.out
          have hlt := (ho2.out.lt b e)
          rcases hOL with ⟨h0, _⟩ | ⟨g1, cap1, ys, h0, h1, h2, h3, ⟨_, h4⟩, _⟩
          · omega
          obtain rfl : g1 = b := by omega
          rcases h4 with ⟨h4, _⟩ | ⟨x, _, cur, he, _, hh, _⟩
          · cases h0; cases h4
          rw [h0] at he
          injection he with e1 _ _
          injection e1 with e1
          injection e1 with e1
          rcases ho2.out.2 with ⟨h5, _⟩ | ⟨y, _, cur', he', _, hh', _⟩
          · rw [h5] at e; cases e
          rw [he'] at e
          injection e with e
          have e : y = g1 := e
          rw [e] at hh'
          rw [← e1, hh'] at hh
          injection hh with hh
          injection hh with _ e3 _
          exact absurd e3 (by decide)
        exact ⟨k + 1, _, _, B2, cp2, by omega, by go_num, rfl, hr, Subs.snoc (B := wr.heap.size) (b := b) (hs2.out.keepB (by omega) hap) (fun i hi => (hsub.out.1 i hi).2.2) (by omega) (by omega) (by omega) (hOL.keep1 hbk), hbw⟩
      case measure => simp [intOf]; omega
    · obtain rfl : k = n := by omega
      go_wp2_with fail
      go_ret
      exact ⟨_, β, ck, rfl, hown.out, hsub.out, hb⟩
theorem copyBoard_any (T : Nat → Tm) (n lo hi : Nat) (v : Value) (w : World) (hv : SlT w lo hi v n T) (hhi : hi ≤ w.heap.size) (hf : tfits T n) (hp : ∀ i, i < n → 0 < (T i).n) :
    Calls Try.prog 65 #[v] w fun e w' => ∃ v', e = .returned v' ∧ OwnT w' w.heap.size w'.heap.size v' n T ∧ Below w.heap.size w w' := by
  refine (copyBoard_raw T n lo hi v w hv hhi hf hp).mono ?_
  rintro e w' ⟨v', β, ck, h1, h2, h3, h4⟩
  exact ⟨v', h1, h3.board hp h2, h4⟩
set_option maxRecDepth 100000 in
set_option maxHeartbeats 3200000 in
theorem enOwnAll_raw (T : Nat → Tm) (n lo hi : Nat) (v : Value) (w : World) (hv : SlT w lo hi v n T) (hhi : hi ≤ w.heap.size) (hf : tfits T n) (hp : ∀ i, i < n → 0 < (T i).n) :
    Calls Try.prog 62 #[v] w fun e w' => ∃ (v' : Value) (β : Nat → Nat) (ck : Nat → Value), e = .returned v' ∧ w'.ownsRow w.heap.size 40 4 v' n (rowL (tC T ck) 4 n) ∧ Subs w' w.heap.size β ck T n ∧ Below w.heap.size w w' := by
  obtain ⟨A, cap, rfl, hcap⟩ := hv.open_
  obtain ⟨hn, hfit⟩ := hf
  obtain ⟨ii, hii, iz0, iz1, iz2⟩ := info_parts infoTeam
  have HP := hide hp
  have HF := hide hfit
  clear hp hfit
  go_enter Try.func62, Try.ntmps62
  go_wp2_with fail
  go_loopw [3, 8] (fun o i wr => ∃ (k : Nat) (β : Nat → Nat) (ck : Nat → Value) (B : Option Addr) (cp : Nat), k ≤ n ∧ i = .int .i64 k ∧ o = .slice B k cp ∧ Hid (wr.ownsRow w.heap.size 40 4 (.slice B k cp) k (rowL (tC T ck) 4 k)) ∧ Hid (Subs wr w.heap.size β ck T k) ∧ Below w.heap.size w wr) (fun _ i _ => n - (intOf i).toNat)
  case atStart => exact ⟨0, fun _ => 0, fun _ => .slice none 0 0, none, 0, by omega, rfl, rfl, World.ownsRow_nil _ _ _ _, Subs.zero _ _ _ _ _, Below.refl _ _⟩
  case round =>
    obtain ⟨k, β, ck, B, cp, hk, rfl, rfl, hown, hsub, hb⟩ := hrel
    have hzr := hb.size
    by_cases hkn : k < n
    · obtain ⟨blk, off, dk, rfl, h1, h2, h3⟩ := (hv.below hb hhi).at_ (by omega) (by omega)
      obtain ⟨t1, t2, t3, t4, t5, t6, t7⟩ := h3 k hkn
      clear h3
      have HC := hide (HF.out k hkn)
      have hpk := HP.out k hkn
      obtain ⟨Ak, ckk, ek, _, _⟩ := t6.open_
      rw [ek] at t5 t6
      clear ek
      have T6 := hide t6
      clear t6
      go_wp2_with fail
      refine (enOwn_any (T k) lo hi _ _ (T6.out.below (B := wr.heap.size) (by repeat (first | (with_reducible exact Below.refl _ _) | (with_reducible refine below_ov ?_ ?_) | (with_reducible refine Below.setCell ?_ ?_ _) | (with_reducible refine Below.alloc ?_ ?_ _) | (with_reducible refine Below.drew ?_) | (with_reducible refine below_drewN ?_ _) | (refine Below.trans ?_ (Below.mono ‹Below _ _ _› (by first | omega | (simp; done) | (simp; omega)))) | exact Below.refl _ _ | omega | (focus (simp; done)) | (focus (simp; omega)))) (by omega)) (by first | omega | (simp; done) | (simp; omega)) hpk HC.out).mono ?_
      rintro e w2 ⟨u, rfl, hou, hgr2, hb2⟩
      have hz2 := hb2.size
      (try (simp at hz2))
      (try (simp at hgr2))
      obtain ⟨Au, cu, rfl, hcu, _⟩ := hou.sl.open_
      have HU := hide hou
      have ho2 := hide (row_below (hown.out.alloc _) hb2 (Nat.le_refl _))
      have hs2 : Hid (Subs w2 w.heap.size β ck T k) := hsub.out.below (B := wr.heap.size) (((Below.refl _ _).alloc (Nat.le_refl _) _).trans (hb2.mono (by simp))) (Nat.le_refl _)
      clear hou hown
      go_wp2_with (at_builtin; refine wpList_append_two _ rfl _ _ 24 rfl w.heap.size 40 ii (.agg #[.string ⟨#[]⟩, .int .i64 0, .int .i64 0, .slice none 0 0]) 4 56 Try.underlying24 hii iz0 iz1 iz2 rfl (by decide) _ _ _ rfl (ho2.out.alloc _) ⟨w2.heap.size, 0, none⟩ 1 1 [.string (T k).s, .int .i64 (T k).v, .int .i64 (T k).y, .slice Au (T k).n cu] rfl rfl ?_ (fun u hu => tm_one hu) (by omega) ?_ ?_ ?_)
      · intro i u hu
        match i, hu with
        | 0, hu => simp at hu; subst hu; simp [go_sem, Addr.add]
        | 1, hu => simp at hu; subst hu; simp [go_sem, Addr.add]
        | 2, hu => simp at hu; subst hu; simp [go_sem, Addr.add]
        | 3, hu => simp at hu; subst hu; simp [go_sem, Addr.add]
      · unfold maxLen; omega
      · omega
      intro v' w7 hcase
      have hb2w : Below w.heap.size w w2 := (by repeat (first | (with_reducible exact Below.refl _ _) | (with_reducible refine below_ov ?_ ?_) | (with_reducible refine Below.setCell ?_ ?_ _) | (with_reducible refine Below.alloc ?_ ?_ _) | (with_reducible refine Below.drew ?_) | (with_reducible refine below_drewN ?_ _) | (refine Below.trans ?_ (Below.mono ‹Below _ _ _› (by first | omega | (simp; done) | (simp; omega)))) | exact Below.refl _ _ | omega | (focus (simp; done)) | (focus (simp; omega))))
      have hfin : Hid (w7.ownsRow w.heap.size 40 4 v' (k + 1) (rowL (tC T (fun i => if i = k then .slice Au (T k).n cu else ck i)) 4 (k + 1)) ∧ Below w.heap.size w w7 ∧ w2.heap.size < w7.heap.size ∧ ∀ b, b < w2.heap.size → (.slice B k cp : Value).ownBlock ≠ some b → w7.heap[b]? = w2.heap[b]?) := by
        show _ ∧ _
        rw [← rowL_tm]
        rcases hcase with ⟨_, r1, r2⟩ | ⟨r1, r2⟩
        · refine ⟨r1, (hb2w.alloc (by omega) _).grown r2 (by simp; omega) (fun g hg => (ho2.out.lt g hg).1), by have := r2.size; simp at this; omega, fun b h1 h2 => ?_⟩
          rw [r2.block b (by simp; omega) (fun e => h2 e.symm)]
          exact Deep.blk_alloc_lt _ _ _ h1
        · refine ⟨r1.mono (by first | omega | (simp; omega)), (hb2w.alloc (by omega) _).grown r2 (by simp; omega) (fun g hg => by cases hg), by have := r2.size; simp at this; omega, fun b h1 h2 => ?_⟩
          rw [r2.block b (by simp; omega) (fun e => by cases e)]
          exact Deep.blk_alloc_lt _ _ _ h1
      clear hcase
      obtain ⟨B2, cp2, rfl⟩ := row_form hfin.out.1
      go_wp2_with fail
      go_roundw
      case rel =>
        obtain ⟨hr, hbw, hzz, hkeep⟩ := hfin.out
        obtain ⟨b, hb0, hb9, hOL⟩ := (HU.out.lf (by omega)).pin (by first | omega | (simp; omega))
        (try (simp at hb0))
        have hap : ∀ i, i < k → w7.heap[β i]? = w2.heap[β i]? := fun i hi => hkeep _ (hs2.out.1 i hi).2.2 fun e => Subs.apart hs2.out (fun i hi => HP.out i (by omega)) ho2.out e i hi rfl
        have hbk : w7.heap[b]? = w2.heap[b]? := hkeep b hb9 fun e => by
          have := hsub.out
          have hlt := (ho2.out.lt b e)
          rcases hOL with ⟨h0, _⟩ | ⟨g1, cap1, ys, h0, h1, h2, h3, ⟨_, h4⟩, _⟩
          · omega
          obtain rfl : g1 = b := by omega
          rcases h4 with ⟨h4, _⟩ | ⟨x, _, cur, he, _, hh, _⟩
          · cases h0; cases h4
          rw [h0] at he
          injection he with e1 _ _
          injection e1 with e1
          injection e1 with e1
          rcases ho2.out.2 with ⟨h5, _⟩ | ⟨y, _, cur', he', _, hh', _⟩
          · rw [h5] at e; cases e
          rw [he'] at e
          injection e with e
          have e : y = g1 := e
          rw [e] at hh'
          rw [← e1, hh'] at hh
          injection hh with hh
          injection hh with _ e3 _
          exact absurd e3 (by decide)
        exact ⟨k + 1, _, _, B2, cp2, by omega, by go_num, rfl, hr, Subs.snoc (B := wr.heap.size) (b := b) (hs2.out.keepB (by omega) hap) (fun i hi => (hsub.out.1 i hi).2.2) (by omega) (by omega) (by omega) (hOL.keep1 hbk), hbw⟩
      case measure => simp [intOf]; omega
    · obtain rfl : k = n := by omega
      go_wp2_with fail
      go_ret
      exact ⟨_, β, ck, rfl, hown.out, hsub.out, hb⟩
theorem enOwnAll_any (T : Nat → Tm) (n lo hi : Nat) (v : Value) (w : World) (hv : SlT w lo hi v n T) (hhi : hi ≤ w.heap.size) (hf : tfits T n) (hp : ∀ i, i < n → 0 < (T i).n) :
    Calls Try.prog 62 #[v] w fun e w' => ∃ v', e = .returned v' ∧ OwnT w' w.heap.size w'.heap.size v' n T ∧ Below w.heap.size w w' := by
  refine (enOwnAll_raw T n lo hi v w hv hhi hf hp).mono ?_
  rintro e w' ⟨v', β, ck, h1, h2, h3, h4⟩
  exact ⟨v', h1, h3.board hp h2, h4⟩

end Go.Proofs.Ytpakjmiallhgnaa
