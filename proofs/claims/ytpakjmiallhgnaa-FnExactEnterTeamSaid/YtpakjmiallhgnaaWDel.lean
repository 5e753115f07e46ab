/-
  Walks: a team taken out of a board of the call's own.
-/
import Derived.Test.YtpakjmiallhgnaaWCopy2
import Derived.Lib.SliceRun
import Derived.Deep.RegionLaw
namespace Go.Proofs.Ytpakjmiallhgnaa
set_option linter.unusedVariables false
set_option linter.unusedSimpArgs false
open Go.RowKit

theorem run_clear_one {P : Program} (w : World) (t e ty : TypeId) (z : Value) (zs : List Value) (ht : P.underlying t = some (.slice e)) (hv : ∀ w, (zeroValue e).run P w = .ok z w) (hz : (Builtin.zeroCells z.cells 1).toList = zs) (h1 : ∀ u ∈ zs, u.oneCell' = true) (b o c : Nat)
    (hc : ∀ j, j < zs.length → (w.cell? ⟨b, o + j, none⟩).isSome = true) (hf : ∀ j, j < zs.length → w.frozen? ⟨b, o + j, none⟩ = false) :
    (Builtin.clear_ #[t] ty #[.slice (some ⟨b, o, none⟩) 1 c]).run P w = .ok (.tuple #[]) (w.setCells b o zs) := by
  have hst := run_storeCells_cells (P := P) b o zs 0 w (by simpa using hc) (by simpa using hf) h1
  simp only [Nat.add_zero] at hst
  simp [Builtin.clear_, run_underlying ht, hv, hz, hst]
section
variable {w w' : World} {lo hi E sz n m K cap g : Nat} {v : Value} {cc : Nat → Value}
theorem OwnL.setCells : ∀ {vs : List Value} {w : World} {o : Nat} {cc : Nat → Value}, OwnL w lo hi E sz (.slice (some ⟨g, 0, none⟩) n cap) n K cc → o + vs.length ≤ n * sz →
    OwnL (w.setCells g o vs) lo hi E sz (.slice (some ⟨g, 0, none⟩) n cap) n K (fun p => if o ≤ p ∧ p < o + vs.length then vs.getD (p - o) (.bool false) else cc p)
  | [], w, o, cc, h, _ => h.congr fun p _ => by
    have : ¬ (o ≤ p ∧ p < o + 0) := by omega
    show _ = if o ≤ p ∧ p < o + 0 then _ else _
    rw [if_neg this]
  | v :: r, w, o, cc, h, hl => by
    simp only [List.length_cons] at hl
    refine (OwnL.setCells (vs := r) (h.set (o := o) (by omega) v) (by omega)).congr fun p _ => ?_
    simp only [List.length_cons]
    rcases Nat.lt_trichotomy p o with h1 | h1 | h1
    · have a1 : ¬ (o + 1 ≤ p ∧ p < o + 1 + r.length) := by omega
      have a2 : ¬ (o ≤ p ∧ p < o + (r.length + 1)) := by omega
      have a3 : ¬ p = o := by omega
      simp only [a1, a2, a3, if_false]
    · subst h1
      have a1 : ¬ (p + 1 ≤ p ∧ p < p + 1 + r.length) := by omega
      have a2 : p ≤ p ∧ p < p + (r.length + 1) := by omega
      simp only [a1, a2, if_false, if_true, Nat.sub_self]
      simp
    · by_cases h2 : p < o + 1 + r.length
      · have a1 : o + 1 ≤ p ∧ p < o + 1 + r.length := by omega
        have a2 : o ≤ p ∧ p < o + (r.length + 1) := by omega
        simp only [a1, a2, if_true, and_self]
        obtain ⟨q, rfl⟩ : ∃ q, p = o + 1 + q := ⟨p - (o + 1), by omega⟩
        rw [show o + 1 + q - (o + 1) = q by omega, show o + 1 + q - o = q + 1 by omega]
        simp
      · have a1 : ¬ (o + 1 ≤ p ∧ p < o + 1 + r.length) := by omega
        have a2 : ¬ (o ≤ p ∧ p < o + (r.length + 1)) := by omega
        have a3 : ¬ p = o := by omega
        simp only [a1, a2, a3, if_false]
theorem OwnL.cut (h : OwnL w lo hi E sz (.slice (some ⟨g, 0, none⟩) n cap) n (n * sz) cc) (hm : m ≤ n) : OwnL w lo hi E sz (.slice (some ⟨g, 0, none⟩) m cap) m (m * sz) cc := by
  rcases h with ⟨rfl, _⟩ | ⟨g', cap', xs, h0, a1, a2, a3, ⟨hl, a4⟩, a5⟩
  · obtain rfl : m = 0 := by omega
    exact .inl ⟨rfl, _, _, rfl⟩
  · injection h0 with e1 e2 e3
    injection e1 with e1
    injection e1 with e1
    subst e1 e3
    have hms : m * sz ≤ n * sz := Nat.mul_le_mul_right sz hm
    rcases a4 with ⟨a4, _⟩ | ⟨x, y, cur, he, hb, hh, hnc, hcm, hcs, ht⟩
    · cases a4
    · injection he with e1 _ e3
      injection e1 with e1
      injection e1 with e1
      subst e1 e3
      refine .inr ⟨g, cap, xs.take (m * sz), rfl, a1, a2, by omega, ⟨?_, .inr ⟨g, cap, cur, rfl, hb, hh, by omega, hcm, hcs, ?_⟩⟩, fun o ho _ => ?_⟩
      · rw [List.length_take, hl]; omega
      · rw [← ht, List.take_take]
        congr 1
        omega
      · rw [List.getElem?_take, if_pos (by omega)]
        exact a5 o (by omega) (by omega)
theorem OwnL.cap_le (h : OwnL w lo hi E sz (.slice (some ⟨g, 0, none⟩) n cap) n K cc) (hn : 0 < n) : n ≤ cap ∧ cap ≤ maxLen := by
  rcases h with ⟨h0, _⟩ | ⟨g', cap', xs, h0, a1, a2, a3, ⟨hl, a4⟩, a5⟩
  · omega
  · injection h0 with e1 e2 e3
    subst e3
    rcases a4 with ⟨a4, _⟩ | ⟨x, y, cur, he, hb, hh, hnc, hcm, hcs, ht⟩
    · cases a4
    · injection he with _ _ e3
      subst e3
      exact ⟨a3, hcm⟩
theorem Only.setCells {g : Nat} : ∀ {vs : List Value} {w' : World} {o : Nat}, Only g (g + 1) w w' → Only g (g + 1) w (w'.setCells g o vs)
  | [], _, _, h => h
  | v :: r, w', o, h => Only.setCells (vs := r) (h.setCell (a := ⟨g, o, none⟩) (Nat.le_refl _) (Nat.lt_succ_self _) v)
end
theorem setCells_size (b : Nat) : ∀ (vs : List Value) (o : Nat) (w : World), (w.setCells b o vs).heap.size = w.heap.size
  | [], _, _ => rfl
  | v :: r, o, w => by rw [World.setCells, setCells_size b r]; simp [World.setCell]
theorem setCells_other (b : Nat) {k : Nat} (hk : k ≠ b) : ∀ (vs : List Value) (o : Nat) (w : World), (w.setCells b o vs).heap[k]? = w.heap[k]?
  | [], _, _ => rfl
  | v :: r, o, w => by rw [World.setCells, setCells_other b hk r]; exact Deep.blk_setCell_other _ _ _ _ hk
/-- The place that was i in the rest of a list from which place k has gone. -/
def skp (k i : Nat) : Nat := if i < k then i else i + 1
theorem skp_lt {k i : Nat} (h : i < k) : skp k i = i := if_pos h
theorem skp_ge {k i : Nat} (h : k ≤ i) : skp k i = i + 1 := if_neg (by omega)
theorem skp_inj {k i j : Nat} (h : i ≠ j) : skp k i ≠ skp k j := by unfold skp; split <;> split <;> omega
theorem skp_le {k i n : Nat} (h : i < n) : skp k i < n + 1 := by unfold skp; split <;> omega
theorem zeroTm : (Builtin.zeroCells (Value.agg #[.string ⟨#[]⟩, .int .i64 0, .int .i64 0, .slice none 0 0]).cells 1).toList = [.string ⟨#[]⟩, .int .i64 0, .int .i64 0, .slice none 0 0] := by kernel_rfl
set_option maxRecDepth 100000 in
set_option maxHeartbeats 3200000 in
theorem DeleteTeam_any (T : Nat → Tm) (k d γ cap : Nat) (β : Nat → Nat) (ck : Nat → Value) (w : World) (h : OwnX w γ β ck (.slice (some ⟨γ, 0, none⟩) (k + d + 1) cap) (k + d + 1) T) (hn : k + d + 1 ≤ 6) (hγ : γ < w.heap.size) (hc1 : ∀ i, i < k + d + 1 → (ck i).oneCell' = true) :
    Calls Try.prog 70 #[.slice (some ⟨γ, 0, none⟩) (k + d + 1) cap, .int .i64 k, .int .i64 (k + 1)] w fun e w' => e = .returned (.slice (some ⟨γ, 0, none⟩) (k + d) cap) ∧ OwnX w' γ (fun i => β (skp k i)) (fun i => ck (skp k i)) (.slice (some ⟨γ, 0, none⟩) (k + d) cap) (k + d) (fun i => T (skp k i)) ∧ Only γ (γ + 1) w w' := by
  obtain ⟨hcap, hmax⟩ := h.own.cap_le (by omega)
  unfold maxLen at hmax
  obtain ⟨ii, hii, iz0, iz1, iz2⟩ := info_parts infoTeam
  obtain ⟨news, hnews⟩ : ∃ news, news = rowL (fun i j => tC T ck (k + 1 + i) j) 4 d := ⟨_, rfl⟩
  have hlen : news.length = d * 4 := by rw [hnews]; exact rowL_len _ _ _
  obtain ⟨W1, hW1⟩ : ∃ W1, W1 = w.drew.setCells γ (0 + k * 4) news := ⟨_, rfl⟩
  have hcell : ∀ o, o < (k + d + 1) * 4 → (∃ u, w.cell? ⟨γ, o, none⟩ = some u) ∧ w.frozen? ⟨γ, o, none⟩ = false ∧ w.cell? ⟨γ, o, none⟩ = some (tC T ck (o / 4) (o % 4)) := fun o ho => by
    obtain ⟨a, b, c⟩ := h.own.cell (by omega) ho
    exact ⟨a, b, c ho⟩
  have hol : OwnL w.drew γ (γ + 1) 40 4 (.slice (some ⟨γ, 0, none⟩) (k + d + 1) cap) (k + d + 1) ((k + d + 1) * 4) (fun o => tC T ck (o / 4) (o % 4)) := h.own.keep1 rfl
  have ho1 := hol.setCells (vs := news) (o := 0 + k * 4) (by omega)
  rw [← hW1] at ho1
  have hz1 : W1.heap.size = w.heap.size := by
    rw [hW1, setCells_size]; rfl
  obtain ⟨A, hA, hsrc⟩ : ∃ A : Addr, (if cap = k + 1 then (some (⟨γ, 0, none⟩ : Addr)) else some ⟨γ, (k + 1) * 4, none⟩) = some A ∧ Hid (∀ t u, news[t]? = some u → w.drew.cell? (A.add t) = some u) := by
    by_cases hd : cap = k + 1
    · refine ⟨⟨γ, 0, none⟩, by simp [hd], fun t u hu => ?_⟩
      have h0 : d = 0 := by omega
      rw [List.length_eq_zero_iff.1 (hlen.trans (by omega))] at hu
      simp at hu
    · refine ⟨⟨γ, (k + 1) * 4, none⟩, by simp [hd], fun t u hu => ?_⟩
      have ht : t < d * 4 := by
        have := (List.getElem?_eq_some_iff.1 hu).1
        omega
      have h2 := (hcell ((k + 1) * 4 + t) (by omega)).2.2
      rw [Addr.add_lit]
      show w.cell? _ = _
      rw [h2]
      have h3 := rowL_get (fun i j => tC T ck (k + 1 + i) j) 4 (k := d) (i := t / 4) (j := t % 4) (by omega) (by omega)
      rw [Nat.div_add_mod', ← hnews, hu] at h3
      rw [h3, show ((k + 1) * 4 + t) / 4 = k + 1 + t / 4 by omega, show ((k + 1) * 4 + t) % 4 = t % 4 by omega]
  have s1 : Hid (news.length = d * 4) := hlen
  have s2 : Hid (∀ u ∈ news, u.oneCell' = true) := by
    intro u hu
    rw [hnews] at hu
    obtain ⟨i, j, hi, hj, rfl⟩ := rowL_mem hu
    match j, hj with
    | 0, _ => rfl
    | 1, _ => rfl
    | 2, _ => rfl
    | 3, _ => exact hc1 _ (by omega)
  have s3 : Hid (∀ t, t < news.length → (w.drew.cell? ⟨γ, 0 + k * 4 + t, none⟩).isSome = true ∧ w.drew.frozen? ⟨γ, 0 + k * 4 + t, none⟩ = false) := by
    intro t ht
    obtain ⟨⟨u, a⟩, b, _⟩ := hcell (0 + k * 4 + t) (by omega)
    exact ⟨by show (w.cell? _).isSome = true; rw [a]; rfl, b⟩
  have hcl : ∀ ty, (Builtin.clear_ #[24] ty #[.slice (some ⟨γ, (k + d) * 4, none⟩) 1 (cap - (k + d))]).run Try.prog W1 = .ok (.tuple #[]) (W1.setCells γ ((k + d) * 4) [.string ⟨#[]⟩, .int .i64 0, .int .i64 0, .slice none 0 0]) := fun ty =>
    run_clear_one W1 _ 40 ty _ _ Try.underlying24 Try.zeroValue40 zeroTm (fun u hu => tm_one hu) γ ((k + d) * 4) _ (fun j hj => by
      simp at hj
      obtain ⟨⟨u, a⟩, _⟩ := ho1.cell (by omega) (o := (k + d) * 4 + j) (by omega)
      rw [a]; rfl) (fun j hj => by
      simp at hj
      exact (ho1.cell (by omega) (o := (k + d) * 4 + j) (by omega)).2.1)
  have hW : Hid (W1 = w.drew.setCells γ (0 + k * 4) news) := hW1
  have HN : Hid (news = rowL (fun i j => tC T ck (k + 1 + i) j) 4 d) := hnews
  have HO1 := hide ho1
  have HH := hide h
  have HL := hide hlen
  have l1 : k ≤ cap := by omega
  have l2 : k + 1 ≤ cap := by omega
  have l3 : ¬ cap = k + d := by omega
  have l4 : ¬ cap = k := by omega
  have l5 : (k : Int) + 1 ≤ (k : Int) + (d : Int) + 1 := by omega
  have l6 : (0 : Int) ≤ (k : Int) + 1 := by omega
  have ne : ¬ ((k : Int) = (k : Int) + 1) := by omega
  clear hW1 hnews ho1 h hcell hol hlen
  go_enter Try.func70, Try.ntmps70
  go_wp2_with fail
  go_region_law (refine step_append_room rfl (.tmp 22) (.tmp 25) 24 rfl 40 ii 4 Try.underlying24 hii iz1 γ 0 k cap (by simp [Act.eval, Act.put]) A d (cap - (k + 1)) news (by simp [Act.eval, Act.put]) s1.out hsrc.out s2.out (by omega) s3.out ?_; rw [← hW.out])
  go_wp2_with fail
  go_ret
  have hoth : ∀ b, b ≠ γ → (W1.setCells γ ((k + d) * 4) [.string ⟨#[]⟩, .int .i64 0, .int .i64 0, .slice none 0 0]).heap[b]? = w.heap[b]? := fun b hb => by
    rw [setCells_other γ hb, hW.out, setCells_other γ hb]
    rfl
  refine ⟨rfl, ⟨?_, fun i hi => (HH.out.sub (skp k i) (skp_le hi)).keep1 (hoth _ (HH.out.ne _ (skp_le hi))), fun i hi => HH.out.ne _ (skp_le hi), fun i j hi hj hij => HH.out.inj _ _ (skp_le hi) (skp_le hj) (skp_inj hij)⟩, ?_⟩
  · refine ((HO1.out.setCells (vs := [.string ⟨#[]⟩, .int .i64 0, .int .i64 0, .slice none 0 0]) (o := (k + d) * 4) (by simp; omega)).cut (m := k + d) (by omega)).congr fun o ho => ?_
    have a1 : ¬ ((k + d) * 4 ≤ o ∧ o < (k + d) * 4 + [Value.string ⟨#[]⟩, .int .i64 0, .int .i64 0, .slice none 0 0].length) := by omega
    rw [if_neg a1]
    obtain ⟨i, j, hj, rfl⟩ : ∃ i j, j < 4 ∧ o = i * 4 + j := ⟨o / 4, o % 4, by omega, by omega⟩
    have e1 : (i * 4 + j) / 4 = i := by omega
    have e2 : (i * 4 + j) % 4 = j := by omega
    rw [e1, e2]
    show _ = tC T ck (skp k i) j
    have hl := HL.out
    rcases Nat.lt_or_ge i k with hik | hik
    · rw [if_neg (by omega), skp_lt hik]
    · rw [if_pos (by omega), skp_ge hik, show i * 4 + j - (0 + k * 4) = (i - k) * 4 + j by omega, HN.out]
      have := rowL_get (fun i j => tC T ck (k + 1 + i) j) 4 (k := d) (i := i - k) (j := j) (by omega) hj
      rw [List.getD, this, show k + 1 + (i - k) = i + 1 by omega]
      rfl
  · refine Only.setCells ?_
    rw [hW.out]
    exact Only.setCells ⟨rfl, rfl, rfl, Nat.le_refl _, fun _ _ _ => rfl⟩

end Go.Proofs.Ytpakjmiallhgnaa
