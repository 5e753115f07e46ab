/-
  Walks: a team enters: plain words; slices.Insert at whatever place.
-/
import Derived.Test.YtpakjmiallhgnaaWIns3
import Derived.Test.YtpakjmiallhgnaaWBin
import Derived.Test.YtpakjmiallhgnaaWLeave
import Derived.Test.YtpakjmiallhgnaaWAdd
import Derived.Test.YtpakjmiallhgnaaMix
import Derived.BigRegion
namespace Go.Proofs.Ytpakjmiallhgnaa
set_option linter.unusedVariables false
set_option linter.unusedSimpArgs false
open Go.RowKit

def etOk (T : Nat → Tm) (n : Nat) (X : Tm) : Bool := bdB T n && (tmB X && (!decide (n = 6) && !fdB T n X.s))
def etN (T : Nat → Tm) (n : Nat) (X : Tm) : Nat := if etOk T n X = true then n + 1 else 0
def insT (T : Nat → Tm) (k : Nat) (X : Tm) (i : Nat) : Tm := if i < k then T i else if i = k then X else T (i - 1)
def etT (T : Nat → Tm) (n : Nat) (X : Tm) : Nat → Tm := insT T (fdK T n X.s) X
theorem fdK_le (T : Nat → Tm) (n : Nat) (s : ByteArray) : fdK T n s ≤ n := (lead_spec _ _).1
theorem etN_le {T : Nat → Tm} {n : Nat} {X : Tm} (hf : tfits T n) : etN T n X ≤ 1048576 := by
  unfold etN
  split
  · rename_i h
    simp only [etOk, Bool.and_eq_true] at h
    have := (bd_facts h.1).1
    omega
  · omega
theorem etT_fits {T : Nat → Tm} {n : Nat} {X : Tm} (hf : tfits T n) (hX : X.fits) : tfits (etT T n X) (etN T n X) := by
  refine ⟨etN_le hf, fun i hi => ?_⟩
  unfold etN at hi
  split at hi
  · unfold etT insT
    split
    · rename_i h
      exact hf.2 _ (by have := fdK_le T n X.s; omega)
    · split
      · exact hX
      · exact hf.2 _ (by omega)
  · omega
def xC (X : Tm) (u : Value) (j : Nat) : Value := if j = 0 then .string X.s else if j = 1 then .int .i64 X.v else if j = 2 then .int .i64 X.y else u
theorem ins_tC (T : Nat → Tm) (ck : Nat → Value) (k : Nat) (X : Tm) (u : Value) (i j : Nat) : insC k (tC T ck) (xC X u) i j = tC (insT T k X) (fun i => if i < k then ck i else if i = k then u else ck (i - 1)) i j := by
  unfold insC
  split
  · rename_i h
    simp only [tC, insT, h, if_true]
  · rename_i h
    split
    · rename_i h'
      subst h'
      simp only [tC, insT, Nat.lt_irrefl, xC, if_true, if_false]
    · rename_i h'
      simp only [tC, insT, h, h', if_false]
theorem rowL_snoc (c : Nat → Nat → Value) (x : Nat → Value) (n : Nat) : rowL c 4 n ++ [x 0, x 1, x 2, x 3] = rowL (insC n c x) 4 (n + 1) := by
  rw [rowL]
  congr 1
  · refine rowL_congr fun i j hi _ => ?_
    simp only [insC, hi, if_true]
  · simp [List.range, List.range.loop, insC]
theorem x4_one {x : Nat → Value} (hx1 : ∀ j, j < 4 → (x j).oneCell' = true) {u : Value} (h : u ∈ [x 0, x 1, x 2, x 3]) : u.oneCell' = true := by
  simp at h
  rcases h with rfl | rfl | rfl | rfl
  · exact hx1 0 (by omega)
  · exact hx1 1 (by omega)
  · exact hx1 2 (by omega)
  · exact hx1 3 (by omega)
set_option maxRecDepth 100000 in
set_option maxHeartbeats 3200000 in
theorem InsertTeam_end (c : Nat → Nat → Value) (x : Nat → Value) (n vb base : Nat) (v : Value) (w : World) (h : w.ownsRow base 40 4 v n (rowL c 4 n)) (hn : n ≤ 5)
    (hvb : w.heap[vb]? = some (.cells #[x 0, x 1, x 2, x 3] 40 (0, 0))) (hx1 : ∀ j, j < 4 → (x j).oneCell' = true) :
    Calls Try.prog 107 #[v, .int .i64 n, .slice (some ⟨vb, 0, none⟩) 1 1] w fun e w' => ∃ v', e = .returned v' ∧ ((v'.ownBlock = v.ownBlock ∧ w'.ownsRow base 40 4 v' (n + 1) (rowL (insC n c x) 4 (n + 1)) ∧ w.grownBy w' v.ownBlock) ∨ (w'.ownsRow w.heap.size 40 4 v' (n + 1) (rowL (insC n c x) 4 (n + 1)) ∧ w.grownBy w' none)) := by
  obtain ⟨ii, hii, iz0, iz1, iz2⟩ := info_parts infoTeam
  have hcv : ∀ j u, [x 0, x 1, x 2, x 3][j]? = some u → w.cell? ((⟨vb, 0, none⟩ : Addr).add j) = some u := fun j u hu => by
    rw [Addr.add_lit, Nat.zero_add]
    simp only [World.cell?, hvb]
    match j, hu with
    | 0, hu => simpa using hu
    | 1, hu => simpa using hu
    | 2, hu => simpa using hu
    | 3, hu => simpa using hu
  have HV := hide hcv
  have HH := hide h
  have hform : v = .slice none 0 0 ∧ n = 0 ∨ ∃ g cap, v = .slice (some ⟨g, 0, none⟩) n cap ∧ n ≤ cap := by
    rcases h.2 with h1 | ⟨g, cap, cur, h1, _, _, h2, _⟩
    · exact .inl h1
    · exact .inr ⟨g, cap, h1, h2⟩
  clear hcv h
  rcases hform with ⟨rfl, rfl⟩ | ⟨g, cap, rfl, hcap⟩
  · go_enter Try.func107, Try.ntmps107
    go_wp2_with (at_builtin; refine wpList_append_two _ rfl _ _ 24 rfl base 40 ii (.agg #[.string ⟨#[]⟩, .int .i64 0, .int .i64 0, .slice none 0 0]) 4 56 Try.underlying24 hii iz0 iz1 iz2 rfl (by decide) _ _ _ rfl HH.out ⟨vb, 0, none⟩ 1 1 [x 0, x 1, x 2, x 3] rfl rfl HV.out (fun u hu => x4_one hx1 hu) (by omega) (by unfold maxLen; omega) (by omega) ?_)
    intro v4 w4 hcase
    rw [rowL_snoc] at hcase
    have hf : ∃ A c, v4 = .slice A 1 c := by
      rcases hcase with ⟨_, r, _⟩ | ⟨r, _⟩ <;> exact row_form r
    obtain ⟨A, c4, rfl⟩ := hf
    have HC := hide hcase
    clear hcase
    go_wp2_with fail
    go_ret
    exact ⟨_, rfl, HC.out⟩
  · go_enter Try.func107, Try.ntmps107
    go_wp2_with (at_builtin; refine wpList_append_two _ rfl _ _ 24 rfl base 40 ii (.agg #[.string ⟨#[]⟩, .int .i64 0, .int .i64 0, .slice none 0 0]) 4 56 Try.underlying24 hii iz0 iz1 iz2 rfl (by decide) _ _ _ rfl HH.out ⟨vb, 0, none⟩ 1 1 [x 0, x 1, x 2, x 3] rfl rfl HV.out (fun u hu => x4_one hx1 hu) (by omega) (by unfold maxLen; omega) (by omega) ?_)
    all_goals
      intro v4 w4 hcase
      rw [rowL_snoc] at hcase
      have hf : ∃ A c, v4 = .slice A (n + 1) c := by
        rcases hcase with ⟨_, r, _⟩ | ⟨r, _⟩ <;> exact row_form r
      obtain ⟨A, c4, rfl⟩ := hf
      have HC := hide hcase
      clear hcase
      go_wp2_with fail
      go_ret
      exact ⟨_, rfl, HC.out⟩
/-- At whatever place. -/
theorem InsertTeam_any (c : Nat → Nat → Value) (x : Nat → Value) (k n vb base : Nat) (v : Value) (w : World) (h : w.ownsRow base 40 4 v n (rowL c 4 n)) (hn : n ≤ 5) (hk : k ≤ n) (hbase : base ≤ w.heap.size)
    (hvb : w.heap[vb]? = some (.cells #[x 0, x 1, x 2, x 3] 40 (0, 0))) (hne : ∀ g, v.ownBlock = some g → vb ≠ g) (hc1 : ∀ i j, i < n → j < 4 → (c i j).oneCell' = true) (hx1 : ∀ j, j < 4 → (x j).oneCell' = true) :
    Calls Try.prog 107 #[v, .int .i64 k, .slice (some ⟨vb, 0, none⟩) 1 1] w fun e w' => ∃ v' g', e = .returned v' ∧ OwnL w' g' (g' + 1) 40 4 v' (n + 1) ((n + 1) * 4) (fun o => insC k c x (o / 4) (o % 4)) ∧ base ≤ g' ∧ g' < w'.heap.size ∧ (∀ b, b < w.heap.size → v.ownBlock ≠ some b → w'.heap[b]? = w.heap[b]?) ∧ Below base w w' := by
  by_cases hkn : k = n
  · subst hkn
    refine (InsertTeam_end c x k vb base v w h hn hvb hx1).mono ?_
    rintro e w' ⟨v', rfl, hcase⟩
    have key : ∀ {b0 : Nat}, w'.ownsRow b0 40 4 v' (k + 1) (rowL (insC k c x) 4 (k + 1)) → ∃ g', b0 ≤ g' ∧ g' < w'.heap.size ∧ OwnL w' g' (g' + 1) 40 4 v' (k + 1) ((k + 1) * 4) (fun o => insC k c x (o / 4) (o % 4)) := fun {b0} r => by
      rcases r.2 with ⟨_, h0⟩ | ⟨g, cap, cur, rfl, _⟩
      · omega
      · have hlt := r.lt g rfl
        exact ⟨g, hlt.1, hlt.2, row_at r (by omega) rfl⟩
    rcases hcase with ⟨r0, r1, r2⟩ | ⟨r1, r2⟩
    · obtain ⟨g', q1, q2, q3⟩ := key r1
      refine ⟨v', g', rfl, q3, q1, q2, fun b hb hnb => r2.block b hb (fun e => hnb e.symm), ?_⟩
      exact (Below.refl _ _).grown r2 hbase (fun g hg => (h.lt g hg).1)
    · obtain ⟨g', q1, q2, q3⟩ := key r1
      refine ⟨v', g', rfl, q3, by omega, q2, fun b hb _ => r2.block b hb (fun e => by cases e), ?_⟩
      exact (Below.refl _ _).grown r2 hbase (fun g hg => by cases hg)
  · obtain ⟨d, rfl⟩ : ∃ d, n = k + d + 1 := ⟨n - 1 - k, by omega⟩
    rcases h.2 with ⟨_, h0⟩ | ⟨γ, cap, cur, rfl, _⟩
    · omega
    have hl := row_at h (by omega) (g := γ) rfl
    have hlt := h.lt γ rfl
    by_cases hroom : k + d + 2 ≤ cap
    · refine (InsertTeam_shift c x k d γ vb cap w hl (by omega) hlt.2 hroom hvb (hne γ rfl) hc1 hx1).mono ?_
      rintro e w' ⟨rfl, h1, h2⟩
      have hz := h2.size
      exact ⟨_, γ, rfl, h1, hlt.1, by omega, fun b hb hnb => h2.block b hb (by have : b ≠ γ := fun e => hnb (by rw [e]; rfl); omega), h2.below hlt.1 hbase⟩
    · refine (InsertTeam_grow c x k d γ vb cap w hl (by omega) hlt.2 (by omega) hvb hc1 hx1).mono ?_
      rintro e w' ⟨G, rfl, h1, h2, h3⟩
      exact ⟨_, w.heap.size, rfl, h1, hbase, h3, fun b hb _ => h2.block b hb, h2.mono hbase⟩

end Go.Proofs.Ytpakjmiallhgnaa
