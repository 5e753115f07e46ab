/-
  Words for the laws' marks on boards: a board of the call's own, each slice in a block of its own.
-/
import Derived.Test.YtpakjmiallhgnaaMarks
import Derived.Test.YtpakjmiallhgnaaWBoardL
namespace Go.Proofs.Ytpakjmiallhgnaa
set_option linter.unusedVariables false
set_option linter.unusedSimpArgs false
open Go.RowKit

section
variable {w w' w'' : World} {lo hi lo' hi' E sz n K cap g : Nat} {v u : Value} {cc cc' : Nat → Value} {c : Nat → Nat → Value}
theorem Only.mono (h : Only lo hi w w') (h1 : lo' ≤ lo) (h2 : hi ≤ hi') : Only lo' hi' w w' := ⟨h.os, h.tape, h.output, h.size, fun k a b => h.block k a (by omega)⟩
theorem OwnL.set (h : OwnL w lo hi E sz (.slice (some ⟨g, 0, none⟩) n cap) n K cc) {o : Nat} (ho : o < n * sz) (u : Value) : OwnL (w.setCell ⟨g, o, none⟩ u) lo hi E sz (.slice (some ⟨g, 0, none⟩) n cap) n K (fun p => if p = o then u else cc p) := by
  rcases h with ⟨rfl, _⟩ | ⟨g', cap', xs, h0, a1, a2, a3, a4, a5⟩
  · omega
  · injection h0 with e1 e2 e3
    injection e1 with e1
    injection e1 with e1
    subst e1 e3
    refine .inr ⟨g, cap, _, rfl, a1, a2, a3, (a4.stored o u).1, fun p hp hp' => ?_⟩
    have hl := a4.1
    by_cases h1 : p = o
    · subst h1
      simp only [if_true]
      exact List.getElem?_set_self (by omega)
    · simp only [h1, if_false]
      rw [List.getElem?_set_ne (by omega)]
      exact a5 p hp hp'
theorem Own.lf (h : Own w lo hi E sz v n n c) (hsz : 0 < sz) : OwnL w lo hi E sz v n (n * sz) (fun o => c (o / sz) (o % sz)) := by
  obtain ⟨xs, ⟨hl, h1⟩, h2, h3⟩ := h
  rcases h1 with ⟨rfl, rfl⟩ | ⟨g, cap, cur, rfl, hg, hh, hnc, r⟩
  · exact .inl ⟨rfl, none, 0, rfl⟩
  · refine .inr ⟨g, cap, xs, rfl, hg, h2 g rfl, hnc, ⟨hl, .inr ⟨g, cap, cur, rfl, hg, hh, hnc, r⟩⟩, fun o h _ => ?_⟩
    have h5 := h3 (o / sz) (o % sz) ((Nat.div_lt_iff_lt_mul hsz).2 h) (Nat.mod_lt _ hsz)
    rw [Nat.div_add_mod'] at h5
    exact h5
theorem OwnL.pin (h : OwnL w lo hi E sz v n K cc) (hlt : lo < hi) : ∃ b, lo ≤ b ∧ b < hi ∧ OwnL w b (b + 1) E sz v n K cc := by
  rcases h with h | ⟨g, cap, xs, rfl, h1, h2, h3, ⟨hl, h4⟩, h5⟩
  · exact ⟨lo, Nat.le_refl _, hlt, .inl h⟩
  · refine ⟨g, h1, h2, .inr ⟨g, cap, xs, rfl, Nat.le_refl _, Nat.lt_succ_self _, h3, ⟨hl, ?_⟩, h5⟩⟩
    rcases h4 with ⟨h4, h6⟩ | ⟨g', cap', cur, he, hg, hh, r⟩
    · cases h4
    · injection he with e1 e2 e3
      injection e1 with e1
      injection e1 with e1
      subst e1 e3
      exact .inr ⟨g, cap, cur, rfl, Nat.le_refl _, hh, r⟩
theorem OwnL.keep1 (h : OwnL w g (g + 1) E sz v n K cc) (hk : w'.heap[g]? = w.heap[g]?) : OwnL w' g (g + 1) E sz v n K cc := h.keep fun b h1 h2 => by
  obtain rfl : b = g := by omega
  exact hk
theorem OwnL.slf (h : OwnL w lo hi E sz v n (n * sz) (fun o => c (o / sz) (o % sz))) : Sl w lo hi sz v n c := h.sl fun i j _ hj => by
  show c ((i * sz + j) / sz) ((i * sz + j) % sz) = c i j
  have hsz : 0 < sz := by omega
  rw [Nat.mul_comm i sz, Nat.mul_add_div hsz, Nat.mul_add_mod, Nat.div_eq_of_lt hj, Nat.mod_eq_of_lt hj, Nat.add_zero]
end

/-- A board of the call's own: the block of the outer slice, the blocks of the inner ones. -/
structure OwnX (w : World) (γ : Nat) (β : Nat → Nat) (ck : Nat → Value) (v : Value) (n : Nat) (T : Nat → Tm) : Prop where
  own : OwnL w γ (γ + 1) 40 4 v n (n * 4) (fun o => tC T ck (o / 4) (o % 4))
  sub : ∀ i, i < n → OwnL w (β i) (β i + 1) 47 2 (ck i) (T i).n ((T i).n * 2) (fun o => iiC (T i).m (T i).b (o / 2) (o % 2))
  ne : ∀ i, i < n → β i ≠ γ
  inj : ∀ i j, i < n → j < n → i ≠ j → β i ≠ β j
/-- Where its blocks lie. -/
def OwnIn (lo hi γ : Nat) (β : Nat → Nat) (n : Nat) : Prop := (0 < n → lo ≤ γ ∧ γ < hi) ∧ ∀ i, i < n → lo ≤ β i ∧ β i < hi
def OwnT (w : World) (lo hi : Nat) (v : Value) (n : Nat) (T : Nat → Tm) : Prop := ∃ γ β ck, OwnX w γ β ck v n T ∧ OwnIn lo hi γ β n
section
variable {w w' : World} {lo hi lo' hi' n γ : Nat} {β : Nat → Nat} {ck : Nat → Value} {v : Value} {T T' : Nat → Tm}
theorem OwnX.keep (h : OwnX w γ β ck v n T) (h1 : 0 < n → w'.heap[γ]? = w.heap[γ]?) (h2 : ∀ i, i < n → w'.heap[β i]? = w.heap[β i]?) : OwnX w' γ β ck v n T where
  own := by
    rcases Nat.eq_zero_or_pos n with h0 | h0
    · subst h0
      obtain ⟨A, cap, rfl, _⟩ := h.own.open_
      exact .inl ⟨rfl, A, cap, rfl⟩
    · exact h.own.keep1 (h1 h0)
  sub := fun i hi => (h.sub i hi).keep1 (h2 i hi)
  ne := h.ne
  inj := h.inj
theorem OwnT.keep (h : OwnT w lo hi v n T) (hk : ∀ b, lo ≤ b → b < hi → w'.heap[b]? = w.heap[b]?) : OwnT w' lo hi v n T := by
  obtain ⟨γ, β, ck, h1, h2, h3⟩ := h
  exact ⟨γ, β, ck, h1.keep (fun h0 => hk _ (h2 h0).1 (h2 h0).2) (fun i hi => hk _ (h3 i hi).1 (h3 i hi).2), h2, h3⟩
theorem OwnT.below {B : Nat} (h : OwnT w lo hi v n T) (hb : Below B w w') (hB : hi ≤ B) : OwnT w' lo hi v n T := h.keep fun b _ h2 => hb.block b (by omega)
theorem OwnT.only (h : OwnT w lo' hi' v n T) (hO : Only lo hi w w') (hd : hi' ≤ lo ∨ hi ≤ lo') (hs : hi' ≤ w.heap.size) : OwnT w' lo' hi' v n T := h.keep fun b h1 h2 => hO.block b (by omega) (by omega)
theorem OwnT.mono (h : OwnT w lo hi v n T) (h1 : lo' ≤ lo) (h2 : hi ≤ hi') : OwnT w lo' hi' v n T := by
  obtain ⟨γ, β, ck, a, b, d⟩ := h
  exact ⟨γ, β, ck, a, fun h0 => by have := b h0; omega, fun i hi => by have := d i hi; omega⟩
theorem SlT.keep (h : SlT w lo hi v n T) (hk : ∀ b, lo ≤ b → b < hi → w'.heap[b]? = w.heap[b]?) : SlT w' lo hi v n T := by
  obtain ⟨ck, h1, h2⟩ := h
  exact ⟨ck, h1.keep hk, fun i hi => (h2 i hi).keep hk⟩
theorem SlT.only (h : SlT w lo' hi' v n T) (hO : Only lo hi w w') (hd : hi' ≤ lo ∨ hi ≤ lo') (hs : hi' ≤ w.heap.size) : SlT w' lo' hi' v n T := h.keep fun b h1 h2 => hO.block b (by omega) (by omega)
theorem OwnT.sl (h : OwnT w lo hi v n T) : SlT w lo hi v n T := by
  obtain ⟨γ, β, ck, h1, h2, h3⟩ := h
  refine ⟨ck, ?_, fun i hi => (h1.sub i hi).slf.mono (h3 i hi).1 (by have := h3 i hi; omega)⟩
  rcases Nat.eq_zero_or_pos n with h0 | h0
  · subst h0
    obtain ⟨A, cap, rfl, _⟩ := h1.own.open_
    exact ⟨A, cap, rfl, Nat.zero_le _, fun h => absurd h (Nat.lt_irrefl _)⟩
  · exact h1.own.slf.mono (h2 h0).1 (by have := h2 h0; omega)
theorem OwnT.nil_ (w : World) (lo hi : Nat) (T : Nat → Tm) : OwnT w lo hi (.slice none 0 0) 0 T :=
  ⟨lo, fun _ => lo, fun _ => .slice none 0 0, ⟨.inl ⟨rfl, none, 0, rfl⟩, fun i h => absurd h (Nat.not_lt_zero _), fun i h => absurd h (Nat.not_lt_zero _), fun i j h => absurd h (Nat.not_lt_zero _)⟩, fun h => absurd h (Nat.lt_irrefl _), fun i h => absurd h (Nat.not_lt_zero _)⟩
theorem OwnX.congr (h : OwnX w γ β ck v n T) (hT : ∀ i, i < n → T i = T' i) : OwnX w γ β ck v n T' where
  own := h.own.congr fun o ho => by
    have : o / 4 < n := by omega
    simp only [tC, hT _ this]
  sub := fun i hi => hT i hi ▸ h.sub i hi
  ne := h.ne
  inj := h.inj
theorem OwnT.congr (h : OwnT w lo hi v n T) (hT : ∀ i, i < n → T i = T' i) : OwnT w lo hi v n T' := by
  obtain ⟨γ, β, ck, a, b⟩ := h
  exact ⟨γ, β, ck, a.congr hT, b⟩
end

/-- The marks of a team, of a board. -/
def mkTm (q : Int) (T : Tm) : Tm := ⟨mT q, q + 1, q + 2, T.n, fun j => q + 3 + (j : Int) * 2, fun j => q + 3 + (j : Int) * 2 + 1⟩
def mkQ (q : Int) (T : Nat → Tm) : Nat → Int
  | 0 => q
  | k + 1 => mkQ q T k + 3 + ((T k).n : Int) * 2
def mkTS (q : Int) (T : Nat → Tm) : Nat → Tm := fun i => mkTm (mkQ q T i) (T i)
def mixTS (q : Int) (T : Nat → Tm) (k : Nat) : Nat → Tm := fun i => if i < k then mkTS q T i else T i
theorem mkQ_bd {q : Int} {T : Nat → Tm} {n : Nat} (h : ∀ i, i < n → (T i).n ≤ 1048576) : ∀ k, k ≤ n → q ≤ mkQ q T k ∧ mkQ q T k ≤ q + (k : Int) * 2097155
  | 0, _ => by simp [mkQ]
  | k + 1, hk => by
    have h1 := mkQ_bd (q := q) h k (by omega)
    have h2 := h k (by omega)
    simp only [mkQ]
    omega

end Go.Proofs.Ytpakjmiallhgnaa
