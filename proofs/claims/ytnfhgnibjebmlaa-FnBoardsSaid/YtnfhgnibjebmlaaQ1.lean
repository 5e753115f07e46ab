/-
  Texts of this proof, one behind the other (part 1).
-/
import Derived.Test.YtnfhgnibjebmlaaRows
import Derived.WalkKit
import Derived.WalkSpells
import Derived.WalkLawsBesides
import Derived.Deep.QuietTactic
import Derived.BigQuiet
import Derived.Lib.Hide
import Derived.ProofKit
import Derived.Deep.AppendLies
import Derived.Deep.Onto
import Derived.Deep.Heap
import Derived.Laws.Concat
import Derived.Laws.BytesArg
import Derived.BigRegion
/-
  Small words for the walks of this seat: hiding, boxes, worlds that only grew. No function of the program in sight.-/
namespace Go.Proofs.Ytnfhgnibjebmlaa
set_option linter.unusedVariables false
set_option linter.unusedSimpArgs false
open Go.RowKit

theorem ret_int {k : IntKind} {a b : Int} (h : a = b) : Ending.returned (.int k a) = .returned (.int k b) := by rw [h]
theorem ret_bool {a b : Bool} (h : a = b) : Ending.returned (.bool a) = .returned (.bool b) := by rw [h]
theorem ret_ib {a c : Int} {b d : Bool} (h : a = c) (h' : b = d) : Ending.returned (.tuple #[.int .i64 a, .bool b]) = .returned (.tuple #[.int .i64 c, .bool d]) := by rw [h, h']

/-- Old cells and old marks read as before. -/
theorem bcell {W w1 : World} (hb : Below W.heap.size W w1) : (∀ b o, b < W.heap.size → w1.cell? ⟨b, o, none⟩ = W.cell? ⟨b, o, none⟩) ∧ (∀ b o, b < W.heap.size → w1.frozen? ⟨b, o, none⟩ = W.frozen? ⟨b, o, none⟩) :=
  ⟨fun b o h => hb.cell (p := ⟨b, o, none⟩) h, fun b o h => hb.frozen (p := ⟨b, o, none⟩) h⟩

theorem hide {p : Prop} (h : p) : Hid p := h
theorem quiet_left {P : Program} {f : FuncId} {args : Array Value} {w : World} {n : Nat} {v : Value}
    (h : Calls P f args (w.drewN n) fun e w' => e = .returned v ∧ w.drewN n = w') : Calls P f args (w.drewN n) fun e w'' => e = .returned v ∧ ∃ m, w'' = w.drewN m :=
  h.mono fun _ _ ⟨he, hm⟩ => ⟨he, n, hm.symm⟩
theorem quiet_add_left {P : Program} {f : FuncId} {args : Array Value} {w : World} {a n : Nat} {v : Value}
    (h : Calls P f args (w.drewN (a + n)) fun e w' => e = .returned v ∧ w.drewN (a + n) = w') :
    Calls P f args (w.drewN (a + n)) fun e w'' => e = .returned v ∧ ∃ m, w'' = w.drewN (a + m) :=
  h.mono fun _ _ ⟨he, hm⟩ => ⟨he, n, hm.symm⟩
theorem below_drewN {B : Nat} {a w : World} (h : Below B a w) (n : Nat) : Below B a (w.drewN n) := ⟨h.os, h.tape, h.output, h.size, h.block⟩

/-- A box that was laid, in a later world. -/
theorem box_cell {B : Nat} {W wr : World} {cs : Array Value} {t : TypeId} (hb : Below B (W.alloc (.cells cs t)) wr) (hB : W.heap.size < B) (i : Nat) {v : Value} (h : cs[i]? = some v) : wr.cell? ⟨W.heap.size, i, none⟩ = some v :=
  (hb.cell (p := ⟨W.heap.size, i, none⟩) hB).trans ((World.cell?_alloc_new _ _ _ _).trans h)

/-- The same world but for draws. -/
def Drew (w w' : World) : Prop := ∃ n, w' = w.drewN n
theorem Drew.refl (w : World) : Drew w w := ⟨0, rfl⟩
theorem Drew.drewN {w w' : World} (h : Drew w w') (n : Nat) : Drew w (w'.drewN n) := by
  obtain ⟨m, rfl⟩ := h
  exact ⟨m + n, World.drewN_drewN _ _ _⟩
theorem Drew.trans {a b c : World} (h : Drew a b) (k : Drew b c) : Drew a c := by
  obtain ⟨m, rfl⟩ := k
  exact h.drewN m
theorem Drew.below {w w' : World} (h : Drew w w') (B : Nat) : Below B w w' := by
  obtain ⟨n, rfl⟩ := h
  exact below_drewN (Below.refl _ _) n
theorem quiet_drew {P : Program} {f : FuncId} {args : Array Value} {w : World} {n : Nat} {v : Value}
    (h : Calls P f args (w.drewN n) fun e w' => e = .returned v ∧ Drew (w.drewN n) w') : Calls P f args (w.drewN n) fun e w'' => e = .returned v ∧ ∃ m, w'' = w.drewN m :=
  h.mono fun _ _ ⟨he, m, hm⟩ => ⟨he, n + m, by rw [hm, World.drewN_drewN]⟩
theorem quiet_add_drew {P : Program} {f : FuncId} {args : Array Value} {w : World} {a n : Nat} {v : Value}
    (h : Calls P f args (w.drewN (a + n)) fun e w' => e = .returned v ∧ Drew (w.drewN (a + n)) w') :
    Calls P f args (w.drewN (a + n)) fun e w'' => e = .returned v ∧ ∃ m, w'' = w.drewN (a + m) :=
  h.mono fun _ _ ⟨he, m, hm⟩ => ⟨he, n + m, by rw [hm, World.drewN_drewN, Nat.add_assoc]⟩

end Go.Proofs.Ytnfhgnibjebmlaa

/-
  Words for slices that are read: 'Sl w lo hi sz v n c': v is a slice of n elements of sz cells each, that lie in a block from lo on and below hi; cell j of element i holds 'c i j'. nil is let in (n = 0).-/
namespace Go.Proofs.Ytnfhgnibjebmlaa
set_option linter.unusedVariables false
set_option linter.unusedSimpArgs false
open Go.RowKit

def Sl (w : World) (lo hi sz : Nat) (v : Value) (n : Nat) (c : Nat → Nat → Value) : Prop :=
  ∃ A cap, v = .slice A n cap ∧ n ≤ cap ∧ (0 < n → ∃ b off, A = some ⟨b, off, none⟩ ∧ lo ≤ b ∧ b < hi ∧ ∀ i j, i < n → j < sz → w.cell? ⟨b, off + i * sz + j, none⟩ = some (c i j))
/-- What is known of the address, behind the value's form. -/
def SlA (w : World) (lo hi sz : Nat) (A : Option Addr) (n : Nat) (c : Nat → Nat → Value) : Prop :=
  0 < n → ∃ b off, A = some ⟨b, off, none⟩ ∧ lo ≤ b ∧ b < hi ∧ ∀ i j, i < n → j < sz → w.cell? ⟨b, off + i * sz + j, none⟩ = some (c i j)
section
variable {w w' : World} {lo hi lo' hi' sz n cap : Nat} {v : Value} {A : Option Addr} {c : Nat → Nat → Value}
theorem Sl.open_ (h : Sl w lo hi sz v n c) : ∃ A cap, v = .slice A n cap ∧ n ≤ cap ∧ SlA w lo hi sz A n c := h
theorem SlA.shut (h : SlA w lo hi sz A n c) (hc : n ≤ cap) : Sl w lo hi sz (.slice A n cap) n c := ⟨A, cap, rfl, hc, h⟩
theorem SlA.keep (h : SlA w lo hi sz A n c) (hk : ∀ k, lo ≤ k → k < hi → w'.heap[k]? = w.heap[k]?) : SlA w' lo hi sz A n c := fun hn => by
  obtain ⟨b, off, h1, h2, h3, h4⟩ := h hn
  exact ⟨b, off, h1, h2, h3, fun i j hi hj => (World.cell?_of_block (w := w) (hk b h2 h3)).trans (h4 i j hi hj)⟩
theorem SlA.below {B : Nat} (h : SlA w lo hi sz A n c) (hb : Below B w w') (hB : hi ≤ B) : SlA w' lo hi sz A n c := h.keep fun k _ h2 => hb.block k (by omega)
theorem SlA.mono (h : SlA w lo hi sz A n c) (h1 : lo' ≤ lo) (h2 : hi ≤ hi') : SlA w lo' hi' sz A n c := fun hn => by
  obtain ⟨b, off, a1, a2, a3, a4⟩ := h hn
  exact ⟨b, off, a1, by omega, by omega, a4⟩
theorem Sl.keep (h : Sl w lo hi sz v n c) (hk : ∀ k, lo ≤ k → k < hi → w'.heap[k]? = w.heap[k]?) : Sl w' lo hi sz v n c := by
  obtain ⟨A, cap, h1, h2, h3⟩ := h
  exact ⟨A, cap, h1, h2, SlA.keep h3 hk⟩
theorem Sl.below {B : Nat} (h : Sl w lo hi sz v n c) (hb : Below B w w') (hB : hi ≤ B) : Sl w' lo hi sz v n c := h.keep fun k _ h2 => hb.block k (by omega)
theorem Sl.mono (h : Sl w lo hi sz v n c) (h1 : lo' ≤ lo) (h2 : hi ≤ hi') : Sl w lo' hi' sz v n c := by
  obtain ⟨A, cap, a1, a2, a3⟩ := h
  exact ⟨A, cap, a1, a2, SlA.mono a3 h1 h2⟩
theorem SlA.less (h : SlA w lo hi sz A n c) {k : Nat} (hk : k ≤ n) : SlA w lo hi sz A k c := fun h0 => by
  obtain ⟨b, off, a1, a2, a3, a4⟩ := h (by omega)
  exact ⟨b, off, a1, a2, a3, fun i j hi hj => a4 i j (by omega) hj⟩
theorem Sl.nil_ : Sl w lo hi sz (.slice none 0 0) 0 c := ⟨none, 0, rfl, Nat.le_refl _, fun h => absurd h (Nat.lt_irrefl _)⟩
end

/-- All of the first n are so. -/
def allB (p : Nat → Bool) : Nat → Bool
  | 0 => true
  | n + 1 => allB p n && p n
theorem allB_iff {p : Nat → Bool} {n : Nat} : allB p n = true ↔ ∀ i, i < n → p i = true := by
  induction n with
  | zero => simp [allB]
  | succ n ih =>
    simp only [allB, Bool.and_eq_true, ih]
    exact ⟨fun ⟨h1, h2⟩ i hi => by
      rcases Nat.lt_or_ge i n with h | h
      · exact h1 i h
      · obtain rfl : i = n := by omega
        exact h2, fun h => ⟨fun i hi => h i (by omega), h n (by omega)⟩⟩
theorem allB_false {p : Nat → Bool} {n i : Nat} (hi : i < n) (h : p i = false) : allB p n = false := by
  cases ha : allB p n with
  | false => rfl
  | true => rw [allB_iff.1 ha i hi] at h; cases h
/-- Up to here all were so; and this one. -/
theorem upto_snoc {p : Nat → Bool} {k : Nat} (h : ∀ j, j < k → p j = true) (hk : p k = true) : ∀ j, j < k + 1 → p j = true := fun j hj => by
  rcases Nat.lt_or_ge j k with h1 | h1
  · exact h j h1
  · obtain rfl : j = k := by omega
    exact hk

theorem upto_snocF {p : Nat → Bool} {k : Nat} (h : ∀ j, j < k → p j = false) (hk : p k = false) : ∀ j, j < k + 1 → p j = false := fun j hj => by
  rcases Nat.lt_or_ge j k with h1 | h1
  · exact h j h1
  · obtain rfl : j = k := by omega
    exact hk
/-! ### A region that draws its order, whose calls make memory: one walk, in a class of worlds in which the old blocks read as they did. -/
/-- x above W's blocks, W's own blocks below. -/
def ov (W x : World) : World := { x with heap := (W.heap.toList ++ x.heap.toList.drop W.heap.size).toArray, os := W.os, tape := W.tape, output := W.output }
theorem ov_block (W x : World) (k : Nat) (hk : k < W.heap.size) : (ov W x).heap[k]? = W.heap[k]? := by
  simp [ov, List.getElem?_append, hk]
theorem ov_below (W x : World) : Below W.heap.size W (ov W x) := ⟨rfl, rfl, rfl, by simp [ov], fun k hk => ov_block W x k hk⟩
theorem ov_of_below {W w' : World} (h : Below W.heap.size W w') : w' = ov W w' := by
  have hh : w'.heap = (W.heap.toList ++ w'.heap.toList.drop W.heap.size).toArray := by
    apply Array.ext_getElem?
    intro i
    by_cases hi : i < W.heap.size
    · rw [h.block i hi]; simp [List.getElem?_append, hi]
    · simp [List.getElem?_append, hi]
      congr 1
      omega
  cases w' with
  | mk heap tape drawn os output =>
    simp only [ov]
    have h1 := h.os
    have h2 := h.tape
    have h3 := h.output
    simp only at h1 h2 h3 hh
    rw [← hh, h1, h2, h3]
theorem ov_class (W : World) : (fun w' => Below W.heap.size W w') = (fun w' => ∃ x, w' = ov W x) := by
  funext w'
  exact propext ⟨fun h => ⟨w', ov_of_below h⟩, fun ⟨x, hx⟩ => hx ▸ ov_below W x⟩
@[go_sem] theorem ov_cell (W x : World) (b o : Nat) (hb : b < W.heap.size) : (ov W x).cell? ⟨b, o, none⟩ = W.cell? ⟨b, o, none⟩ := (ov_below W x).cell (p := ⟨b, o, none⟩) hb
@[go_sem] theorem ov_frozen (W x : World) (b o : Nat) (hb : b < W.heap.size) : (ov W x).frozen? ⟨b, o, none⟩ = W.frozen? ⟨b, o, none⟩ := (ov_below W x).frozen (p := ⟨b, o, none⟩) hb
theorem wp_region_below_lit {P : Program} {id : Nat} {Q : Exit → Act → World → Prop} {a : Act} {w : World} {l : List Oper} (hm : P.follows .mixedOrders = true) (hB : Region.lexB .any l.toArray = true)
    (h : wpQuiet P l.toArray (fun w' => ∃ x, w' = ov w x) (fun a' => ∀ w', Below w.heap.size w w' → Q .normal a' w') l a) : (Code.region id l.toArray true).wp P Q a w := by
  have e := ov_class w
  refine wp_region_quiet (C := fun w' => ∃ x, w' = ov w x) hm hB ?_ ?_
  · exact (congrFun e _).mp (Below.drew (Below.refl w.heap.size w))
  · have e2 : (fun a' => ∀ w', Below w.heap.size w w' → Q .normal a' w') = (fun a' => ∀ w', (∃ x, w' = ov w x) → Q .normal a' w') := by
      funext a'
      refine propext ⟨fun hq w' hx => hq w' (by have := congrFun e w'; exact this.mpr hx), fun hq w' hb => hq w' ((congrFun e w').mp hb)⟩
    rw [← e2]
    simpa using h
theorem below_ov {B : Nat} {a W x : World} (h : Below B a W) (hB : B ≤ W.heap.size) : Below B a (ov W x) := h.trans ((ov_below W x).mono hB)
theorem quiet_ov {P : Program} {f : FuncId} {args : Array Value} {W x : World} {v : Value}
    (h : Calls P f args (ov W x) fun e w' => e = .returned v ∧ Below (ov W x).heap.size (ov W x) w') : Calls P f args (ov W x) fun e w'' => e = .returned v ∧ ∃ m, w'' = ov W m :=
  h.mono fun _ w' ⟨he, hb⟩ => ⟨he, w', ov_of_below ((ov_below W x).trans (hb.mono (ov_below W x).size))⟩
theorem quiet_ov_same {P : Program} {f : FuncId} {args : Array Value} {W x : World} {v : Value}
    (h : Calls P f args (ov W x) fun e w' => e = .returned v ∧ ov W x = w') : Calls P f args (ov W x) fun e w'' => e = .returned v ∧ ∃ m, w'' = ov W m :=
  h.mono fun _ _ ⟨he, hm⟩ => ⟨he, x, hm.symm⟩

end Go.Proofs.Ytnfhgnibjebmlaa

/-
  Words for slices of the call's own: 'Own w lo hi E sz v n k c': v is a slice of n elements (E: their type, sz cells each) in a block of the call's own from lo on and below hi; its first k elements are known.-/
namespace Go.Proofs.Ytnfhgnibjebmlaa
set_option linter.unusedVariables false
set_option linter.unusedSimpArgs false
open Go.RowKit

def Own (w : World) (lo hi E sz : Nat) (v : Value) (n k : Nat) (c : Nat → Nat → Value) : Prop :=
  ∃ xs, w.ownsRow lo E sz v n xs ∧ (∀ g, v.ownBlock = some g → g < hi) ∧ ∀ i j, i < k → j < sz → xs[i * sz + j]? = some (c i j)
theorem lin_lt {n sz i j : Nat} (hi : i < n) (hj : j < sz) : i * sz + j < n * sz := by
  have : (i + 1) * sz ≤ n * sz := Nat.mul_le_mul_right sz hi
  have : (i + 1) * sz = i * sz + sz := Nat.succ_mul i sz
  omega
section
variable {w w' : World} {lo hi lo' hi' E sz n k g cap : Nat} {v u : Value} {c c' : Nat → Nat → Value}
theorem Own.nil_ (w : World) (lo hi E sz : Nat) (c : Nat → Nat → Value) : Own w lo hi E sz (.slice none 0 0) 0 0 c :=
  ⟨[], w.ownsRow_nil lo E sz, fun g h => (by cases h), fun i j h => absurd h (by omega)⟩
theorem Own.sl (h : Own w lo hi E sz v n n c) : Sl w lo hi sz v n c := by
  obtain ⟨xs, ⟨hl, h1⟩, h2, h3⟩ := h
  rcases h1 with ⟨rfl, rfl⟩ | ⟨g, cap, cur, rfl, hg, hh, hnc, hcm, hsz, ht⟩
  · exact Sl.nil_
  · refine ⟨_, _, rfl, hnc, fun hn => ⟨g, 0, rfl, hg, h2 g rfl, fun i j hi hj => ?_⟩⟩
    have h4 := h3 i j hi hj
    have hlt := lin_lt hi hj
    rw [← ht, List.getElem?_take, if_pos hlt] at h4
    rw [Nat.zero_add]
    simpa [World.cell?, hh] using h4
theorem Own.keep (h : Own w lo hi E sz v n k c) (hk : ∀ b, lo ≤ b → b < hi → w'.heap[b]? = w.heap[b]?) : Own w' lo hi E sz v n k c := by
  obtain ⟨xs, ⟨hl, h1⟩, h2, h3⟩ := h
  refine ⟨xs, ⟨hl, ?_⟩, h2, h3⟩
  rcases h1 with h1 | ⟨g, cap, cur, rfl, hg, hh, r⟩
  · exact .inl h1
  · exact .inr ⟨g, cap, cur, rfl, hg, by rw [hk g hg (h2 g rfl)]; exact hh, r⟩
theorem Own.below {B : Nat} (h : Own w lo hi E sz v n k c) (hb : Below B w w') (hB : hi ≤ B) : Own w' lo hi E sz v n k c := h.keep fun b _ h2 => hb.block b (by omega)
theorem Own.mono (h : Own w lo hi E sz v n k c) (h1 : lo' ≤ lo) (h2 : hi ≤ hi') : Own w lo' hi' E sz v n k c := by
  obtain ⟨xs, a, b, d⟩ := h
  exact ⟨xs, a.mono h1, fun g hg => Nat.lt_of_lt_of_le (b g hg) h2, d⟩
theorem Own.alloc (h : Own w lo hi E sz v n k c) (hB : hi ≤ w.heap.size) (o : Obj) : Own (w.alloc o) lo hi E sz v n k c := h.below ((Below.refl _ _).alloc (Nat.le_refl _) o) hB
theorem Own.congr (h : Own w lo hi E sz v n k c) (hc : ∀ i j, i < k → j < sz → c i j = c' i j) : Own w lo hi E sz v n k c' := by
  obtain ⟨xs, a, b, d⟩ := h
  exact ⟨xs, a, b, fun i j hi hj => (d i j hi hj).trans (by rw [hc i j hi hj])⟩
theorem Own.less (h : Own w lo hi E sz v n k c) {k' : Nat} (hk : k' ≤ k) : Own w lo hi E sz v n k' c := by
  obtain ⟨xs, a, b, d⟩ := h
  exact ⟨xs, a, b, fun i j hi hj => d i j (by omega) hj⟩
theorem Own.has (h : Own w lo hi E sz (.slice (some ⟨g, 0, none⟩) n cap) n k c) {o : Nat} (ho : o < n * sz) : ∃ u, w.cell? ⟨g, o, none⟩ = some u := by
  obtain ⟨xs, a, b, d⟩ := h
  have h1 := a.cellAt o ho
  have h2 : o < xs.length := by rw [a.1]; exact ho
  exact ⟨xs[o], by rw [h1]; exact List.getElem?_eq_getElem h2⟩
theorem Own.free (h : Own w lo hi E sz (.slice (some ⟨g, 0, none⟩) n cap) n k c) (o : Nat) : w.frozen? ⟨g, o, none⟩ = false := by
  obtain ⟨xs, a, b, d⟩ := h
  exact a.frozenAt o
theorem Own.at_ (h : Own w lo hi E sz (.slice (some ⟨g, 0, none⟩) n cap) n k c) {i j : Nat} (hi : i < k) (hj : j < sz) (hn : k ≤ n) : w.cell? ⟨g, i * sz + j, none⟩ = some (c i j) := by
  obtain ⟨xs, a, b, d⟩ := h
  rw [a.cellAt _ (lin_lt (by omega) hj)]
  exact d i j hi hj
theorem Own.block (h : Own w lo hi E sz (.slice (some ⟨g, 0, none⟩) n cap) n k c) : lo ≤ g ∧ g < hi := by
  obtain ⟨xs, a, b, d⟩ := h
  exact ⟨(a.lt g rfl).1, b g rfl⟩
theorem Own.store1 (h : Own w lo hi E 1 (.slice (some ⟨g, 0, none⟩) n cap) n k c) (hk : k < n) : Own (w.setCell ⟨g, k, none⟩ (c k 0)) lo hi E 1 (.slice (some ⟨g, 0, none⟩) n cap) n (k + 1) c := by
  obtain ⟨xs, a, b, d⟩ := h
  have hl := a.1
  refine ⟨_, (a.stored k (c k 0)).1, b, fun i j hi hj => ?_⟩
  obtain rfl : j = 0 := by omega
  simp only [Nat.mul_one, Nat.add_zero]
  rcases Nat.lt_or_ge i k with h1 | h1
  · rw [List.getElem?_set_ne (by omega)]
    simpa using d i 0 h1 hj
  · obtain rfl : i = k := by omega
    rw [List.getElem?_set_self (by omega)]
theorem Own.store2 (h : Own w lo hi E 2 (.slice (some ⟨g, 0, none⟩) n cap) n k c) (hk : k < n) :
    Own ((w.setCell ⟨g, k * 2, none⟩ (c k 0)).setCell ⟨g, k * 2 + 1, none⟩ (c k 1)) lo hi E 2 (.slice (some ⟨g, 0, none⟩) n cap) n (k + 1) c := by
  obtain ⟨xs, a, b, d⟩ := h
  have hl := a.1
  refine ⟨_, ((a.stored (k * 2) (c k 0)).1.stored (k * 2 + 1) (c k 1)).1, b, fun i j hi hj => ?_⟩
  rcases Nat.lt_or_ge i k with h1 | h1
  · rw [List.getElem?_set_ne (by omega), List.getElem?_set_ne (by omega)]
    exact d i j h1 hj
  · obtain rfl : i = k := by omega
    match j, hj with
    | 0, _ => rw [List.getElem?_set_ne (by omega)]; exact List.getElem?_set_self (by omega)
    | 1, _ => rw [List.getElem?_set_self (by rw [List.length_set]; omega)]
theorem Own.store3 (h : Own w lo hi E 3 (.slice (some ⟨g, 0, none⟩) n cap) n k c) (hk : k < n) :
    Own (((w.setCell ⟨g, k * 3, none⟩ (c k 0)).setCell ⟨g, k * 3 + 1, none⟩ (c k 1)).setCell ⟨g, k * 3 + 2, none⟩ (c k 2)) lo hi E 3 (.slice (some ⟨g, 0, none⟩) n cap) n (k + 1) c := by
  obtain ⟨xs, a, b, d⟩ := h
  have hl := a.1
  refine ⟨_, (((a.stored (k * 3) (c k 0)).1.stored (k * 3 + 1) (c k 1)).1.stored (k * 3 + 2) (c k 2)).1, b, fun i j hi hj => ?_⟩
  rcases Nat.lt_or_ge i k with h1 | h1
  · rw [List.getElem?_set_ne (by omega), List.getElem?_set_ne (by omega), List.getElem?_set_ne (by omega)]
    exact d i j h1 hj
  · obtain rfl : i = k := by omega
    match j, hj with
    | 0, _ => rw [List.getElem?_set_ne (by omega), List.getElem?_set_ne (by omega)]; exact List.getElem?_set_self (by omega)
    | 1, _ => rw [List.getElem?_set_ne (by omega), List.getElem?_set_self (by rw [List.length_set]; omega)]
    | 2, _ => rw [List.getElem?_set_self (by rw [List.length_set, List.length_set]; omega)]
theorem Own.store4 (h : Own w lo hi E 4 (.slice (some ⟨g, 0, none⟩) n cap) n k c) (hk : k < n) :
    Own ((((w.setCell ⟨g, k * 4, none⟩ (c k 0)).setCell ⟨g, k * 4 + 1, none⟩ (c k 1)).setCell ⟨g, k * 4 + 2, none⟩ (c k 2)).setCell ⟨g, k * 4 + 3, none⟩ (c k 3)) lo hi E 4 (.slice (some ⟨g, 0, none⟩) n cap) n (k + 1) c := by
  obtain ⟨xs, a, b, d⟩ := h
  have hl := a.1
  refine ⟨_, ((((a.stored (k * 4) (c k 0)).1.stored (k * 4 + 1) (c k 1)).1.stored (k * 4 + 2) (c k 2)).1.stored (k * 4 + 3) (c k 3)).1, b, fun i j hi hj => ?_⟩
  rcases Nat.lt_or_ge i k with h1 | h1
  · rw [List.getElem?_set_ne (by omega), List.getElem?_set_ne (by omega), List.getElem?_set_ne (by omega), List.getElem?_set_ne (by omega)]
    exact d i j h1 hj
  · obtain rfl : i = k := by omega
    match j, hj with
    | 0, _ => rw [List.getElem?_set_ne (by omega), List.getElem?_set_ne (by omega), List.getElem?_set_ne (by omega)]; exact List.getElem?_set_self (by omega)
    | 1, _ => rw [List.getElem?_set_ne (by omega), List.getElem?_set_ne (by omega), List.getElem?_set_self (by rw [List.length_set]; omega)]
    | 2, _ => rw [List.getElem?_set_ne (by omega), List.getElem?_set_self (by rw [List.length_set, List.length_set]; omega)]
    | 3, _ => rw [List.getElem?_set_self (by rw [List.length_set, List.length_set, List.length_set]; omega)]
end

end Go.Proofs.Ytnfhgnibjebmlaa

/-
  Words for the laws' marks: a slice of the call's own, cell by cell; what writes to a range of blocks alone; the text of a mark.-/
namespace Go.Proofs.Ytnfhgnibjebmlaa
set_option linter.unusedVariables false
set_option linter.unusedSimpArgs false
open Go.RowKit

/-- A slice of the call's own whose first K cells are known (of no element: whatever it points to). -/
def OwnL (w : World) (lo hi E sz : Nat) (v : Value) (n K : Nat) (cc : Nat → Value) : Prop :=
  (n = 0 ∧ ∃ A cap, v = .slice A 0 cap) ∨ ∃ g cap xs, v = .slice (some ⟨g, 0, none⟩) n cap ∧ lo ≤ g ∧ g < hi ∧ n ≤ cap ∧ w.ownsRow lo E sz v n xs ∧ ∀ o, o < K → o < n * sz → xs[o]? = some (cc o)
/-- Nothing below has turned but in the blocks from lo on and below hi. -/
structure Only (lo hi : Nat) (w w' : World) : Prop where
  os : w'.os = w.os
  tape : w'.tape = w.tape
  output : w'.output = w.output
  size : w.heap.size ≤ w'.heap.size
  block : ∀ k, k < w.heap.size → (k < lo ∨ hi ≤ k) → w'.heap[k]? = w.heap[k]?
theorem Only.refl (lo hi : Nat) (w : World) : Only lo hi w w := ⟨rfl, rfl, rfl, Nat.le_refl _, fun _ _ _ => rfl⟩
section
variable {w w' w'' : World} {lo hi E sz n K cap g : Nat} {v u : Value} {cc cc' : Nat → Value}
theorem Only.trans (h : Only lo hi w w') (h' : Only lo hi w' w'') : Only lo hi w w'' :=
  ⟨h'.os.trans h.os, h'.tape.trans h.tape, h'.output.trans h.output, Nat.le_trans h.size h'.size, fun k h1 h2 => (h'.block k (Nat.lt_of_lt_of_le h1 h.size) h2).trans (h.block k h1 h2)⟩
theorem Only.of_below (h : Below w.heap.size w w') : Only lo hi w w' := ⟨h.os, h.tape, h.output, h.size, fun k h1 _ => h.block k h1⟩
theorem Only.then_below (h : Only lo hi w w') (hb : Below w'.heap.size w' w'') : Only lo hi w w'' := h.trans (Only.of_below hb)
theorem Only.below {B : Nat} (h : Only lo hi w w') (h1 : B ≤ lo) (h2 : B ≤ w.heap.size) : Below B w w' := ⟨h.os, h.tape, h.output, h.size, fun k hk => h.block k (by omega) (.inl (by omega))⟩
theorem Only.setCell (h : Only lo hi w w') {a : Addr} (h1 : lo ≤ a.block) (h2 : a.block < hi) (u : Value) : Only lo hi w (w'.setCell a u) := by
  refine ⟨?_, ?_, ?_, ?_, fun k hk hk' => ?_⟩
  · exact (by simp [World.setCell]; exact h.os)
  · exact (by simp [World.setCell]; exact h.tape)
  · exact (by simp [World.setCell]; exact h.output)
  · have := h.size
    simp [World.setCell]; exact this
  · rw [Deep.blk_setCell_other _ _ _ _ (by omega)]
    exact h.block k hk hk'
theorem OwnL.open_ (h : OwnL w lo hi E sz v n K cc) : ∃ A cap, v = .slice A n cap ∧ n ≤ cap ∧ (0 < n → ∃ g, A = some ⟨g, 0, none⟩ ∧ lo ≤ g ∧ g < hi) := by
  rcases h with ⟨rfl, A, cap, rfl⟩ | ⟨g, cap, xs, rfl, h1, h2, h3, h4, h5⟩
  · exact ⟨A, cap, rfl, Nat.zero_le _, fun h => absurd h (Nat.lt_irrefl _)⟩
  · exact ⟨_, cap, rfl, h3, fun _ => ⟨g, rfl, h1, h2⟩⟩
theorem OwnL.less (h : OwnL w lo hi E sz v n K cc) {K' : Nat} (hk : K' ≤ K) : OwnL w lo hi E sz v n K' cc := by
  rcases h with h | ⟨g, cap, xs, h0, h1, h2, h3, h4, h5⟩
  · exact .inl h
  · exact .inr ⟨g, cap, xs, h0, h1, h2, h3, h4, fun o ho ho' => h5 o (by omega) ho'⟩
theorem OwnL.congr (h : OwnL w lo hi E sz v n K cc) (hc : ∀ o, o < K → cc o = cc' o) : OwnL w lo hi E sz v n K cc' := by
  rcases h with h | ⟨g, cap, xs, h0, h1, h2, h3, h4, h5⟩
  · exact .inl h
  · exact .inr ⟨g, cap, xs, h0, h1, h2, h3, h4, fun o ho ho' => (h5 o ho ho').trans (by rw [hc o ho])⟩
theorem OwnL.keep (h : OwnL w lo hi E sz v n K cc) (hk : ∀ b, lo ≤ b → b < hi → w'.heap[b]? = w.heap[b]?) : OwnL w' lo hi E sz v n K cc := by
  rcases h with h | ⟨g, cap, xs, rfl, h1, h2, h3, ⟨hl, h4⟩, h5⟩
  · exact .inl h
  · refine .inr ⟨g, cap, xs, rfl, h1, h2, h3, ⟨hl, ?_⟩, h5⟩
    rcases h4 with ⟨h4, h6⟩ | ⟨g', cap', cur, he, hg, hh, r⟩
    · cases h4
    · injection he with e1 e2 e3
      injection e1 with e1
      injection e1 with e1
      subst e1 e3
      exact .inr ⟨g, cap, cur, rfl, hg, by rw [hk g hg h2]; exact hh, r⟩
theorem OwnL.below {B : Nat} (h : OwnL w lo hi E sz v n K cc) (hb : Below B w w') (hB : hi ≤ B) : OwnL w' lo hi E sz v n K cc := h.keep fun b _ h2 => hb.block b (by omega)
theorem OwnL.mono {lo' hi' : Nat} (h : OwnL w lo hi E sz v n K cc) (h1 : lo' ≤ lo) (h2 : hi ≤ hi') : OwnL w lo' hi' E sz v n K cc := by
  rcases h with h | ⟨g, cap, xs, h0, a1, a2, a3, a4, a5⟩
  · exact .inl h
  · exact .inr ⟨g, cap, xs, h0, by omega, by omega, a3, a4.mono h1, a5⟩
theorem OwnL.cell (h : OwnL w lo hi E sz (.slice (some ⟨g, 0, none⟩) n cap) n K cc) (hn : 0 < n) {o : Nat} (ho : o < n * sz) : (∃ u, w.cell? ⟨g, o, none⟩ = some u) ∧ w.frozen? ⟨g, o, none⟩ = false ∧ (o < K → w.cell? ⟨g, o, none⟩ = some (cc o)) := by
  rcases h with ⟨rfl, _⟩ | ⟨g', cap', xs, h0, a1, a2, a3, a4, a5⟩
  · omega
  · injection h0 with e1 e2 e3
    injection e1 with e1
    injection e1 with e1
    subst e1 e3
    have h1 := a4.cellAt o ho
    have h2 : o < xs.length := by rw [a4.1]; exact ho
    exact ⟨⟨xs[o], by rw [h1]; exact List.getElem?_eq_getElem h2⟩, a4.frozenAt o, fun hk => h1.trans (a5 o hk ho)⟩
theorem OwnL.store (h : OwnL w lo hi E sz (.slice (some ⟨g, 0, none⟩) n cap) n K cc) (hK : K < n * sz) : OwnL (w.setCell ⟨g, K, none⟩ (cc K)) lo hi E sz (.slice (some ⟨g, 0, none⟩) n cap) n (K + 1) cc := by
  rcases h with ⟨rfl, _⟩ | ⟨g', cap', xs, h0, a1, a2, a3, a4, a5⟩
  · omega
  · injection h0 with e1 e2 e3
    injection e1 with e1
    injection e1 with e1
    subst e1 e3
    refine .inr ⟨g, cap, _, rfl, a1, a2, a3, (a4.stored K (cc K)).1, fun o ho ho' => ?_⟩
    have hl := a4.1
    rcases Nat.lt_or_ge o K with h1 | h1
    · rw [List.getElem?_set_ne (by omega)]
      exact a5 o h1 ho'
    · obtain rfl : o = K := by omega
      exact List.getElem?_set_self (by omega)
theorem OwnL.sl (h : OwnL w lo hi E sz v n (n * sz) cc) {c : Nat → Nat → Value} (hc : ∀ i j, i < n → j < sz → cc (i * sz + j) = c i j) : Sl w lo hi sz v n c := by
  rcases h with ⟨rfl, A, cap, rfl⟩ | ⟨g, cap, xs, rfl, a1, a2, a3, a4, a5⟩
  · exact ⟨A, cap, rfl, Nat.zero_le _, fun h => absurd h (Nat.lt_irrefl _)⟩
  · refine ⟨_, _, rfl, a3, fun hn => ⟨g, 0, rfl, a1, a2, fun i j hi hj => ?_⟩⟩
    have hlt := lin_lt hi hj
    rw [Nat.zero_add, a4.cellAt _ hlt, a5 _ hlt hlt, hc i j hi hj]
theorem Own.l {k : Nat} {c : Nat → Nat → Value} (h : Own w lo hi E sz v n k c) (cc : Nat → Value) : OwnL w lo hi E sz v n 0 cc := by
  obtain ⟨xs, ⟨hl, h1⟩, h2, h3⟩ := h
  rcases h1 with ⟨rfl, rfl⟩ | ⟨g, cap, cur, rfl, hg, hh, hnc, r⟩
  · exact .inl ⟨rfl, none, 0, rfl⟩
  · exact .inr ⟨g, cap, xs, rfl, hg, h2 g rfl, hnc, ⟨hl, .inr ⟨g, cap, cur, rfl, hg, hh, hnc, r⟩⟩, fun o h => absurd h (Nat.not_lt_zero _)⟩
end

/-- The digits of a number, put ahead of a text. -/
def mtGo (k : Nat) (out : ByteArray) : ByteArray := if k = 0 then out else mtGo (k / 10) (strOfNums [48 + (k : Int) % 10] ++ out)
termination_by k
decreasing_by omega
/-- The text of a mark. -/
def mT (k : Int) : ByteArray := if k ≤ 0 then ⟨#[109, 48]⟩ else ⟨#[109]⟩ ++ mtGo k.toNat ⟨#[]⟩

end Go.Proofs.Ytnfhgnibjebmlaa

/-
  Marks alone (a seat without marks has 'Only' from here).-/
namespace Go.Proofs.Ytnfhgnibjebmlaa
set_option linter.unusedVariables false
set_option linter.unusedSimpArgs false
end Go.Proofs.Ytnfhgnibjebmlaa

/-
  The cells of plain data: a slice's element i, field j (printed by gen_data.py).-/
namespace Go.Proofs.Ytnfhgnibjebmlaa
set_option linter.unusedVariables false
set_option linter.unusedSimpArgs false
open Go.RowKit

theorem str_beq (a b : ByteArray) : (a.toList == b.toList) = decide (a = b) := by
  rw [ByteArray.toList_eq, ByteArray.toList_eq]
  by_cases h : a = b
  · simp [h]
  · have h2 : ¬ a.data.toList = b.data.toList := fun e => h (WideShapes.bytes_inj e)
    rw [decide_eq_false h]
    simpa using h2
/-- What is left of a budget. -/
def leftF (left : Int) (n : Nat) : Int := if left < n then -1 else left - n
def iC (f0 : Nat → Int) : Nat → Nat → Value := fun i _ => .int .i64 (f0 i)
def iE (a0 : Int) (a0' : Int) : Bool := decide (a0 = a0')
theorem iE_iff {a0 : Int} {a0' : Int} : iE a0 a0' = true ↔ a0 = a0' := by simp [iE]
def iL (f0 : Nat → Int) (f0' : Nat → Int) (n n' : Nat) : Bool := decide (n = n') && allB (fun i => iE (f0 i) (f0' i)) n
theorem iL_self (f0 : Nat → Int) (n : Nat) : iL f0 f0 n n = true := by
  rw [iL, allB_iff.2 (fun i _ => iE_iff.2 rfl)]; simp
theorem iL_iff {f0 : Nat → Int} {f0' : Nat → Int} {n n' : Nat} : iL f0 f0' n n' = true ↔ n = n' ∧ ∀ i, i < n → f0 i = f0' i := by
  simp only [iL, Bool.and_eq_true, decide_eq_true_eq, allB_iff, iE_iff]
def sC (f0 : Nat → ByteArray) : Nat → Nat → Value := fun i _ => .string (f0 i)
def sE (a0 : ByteArray) (a0' : ByteArray) : Bool := decide (a0 = a0')
theorem sE_iff {a0 : ByteArray} {a0' : ByteArray} : sE a0 a0' = true ↔ a0 = a0' := by simp [sE]
def sL (f0 : Nat → ByteArray) (f0' : Nat → ByteArray) (n n' : Nat) : Bool := decide (n = n') && allB (fun i => sE (f0 i) (f0' i)) n
theorem sL_self (f0 : Nat → ByteArray) (n : Nat) : sL f0 f0 n n = true := by
  rw [sL, allB_iff.2 (fun i _ => sE_iff.2 rfl)]; simp
theorem sL_iff {f0 : Nat → ByteArray} {f0' : Nat → ByteArray} {n n' : Nat} : sL f0 f0' n n' = true ↔ n = n' ∧ ∀ i, i < n → f0 i = f0' i := by
  simp only [sL, Bool.and_eq_true, decide_eq_true_eq, allB_iff, sE_iff]
def iiC (f0 : Nat → Int) (f1 : Nat → Int) : Nat → Nat → Value := fun i j => if j = 0 then .int .i64 (f0 i) else .int .i64 (f1 i)
def iiE (a0 : Int) (a1 : Int) (a0' : Int) (a1' : Int) : Bool := decide (a0 = a0') && decide (a1 = a1')
theorem iiE_iff {a0 : Int} {a1 : Int} {a0' : Int} {a1' : Int} : iiE a0 a1 a0' a1' = true ↔ a0 = a0' ∧ a1 = a1' := by simp [iiE]
def iiL (f0 : Nat → Int) (f1 : Nat → Int) (f0' : Nat → Int) (f1' : Nat → Int) (n n' : Nat) : Bool := decide (n = n') && allB (fun i => iiE (f0 i) (f1 i) (f0' i) (f1' i)) n
theorem iiL_self (f0 : Nat → Int) (f1 : Nat → Int) (n : Nat) : iiL f0 f1 f0 f1 n n = true := by
  rw [iiL, allB_iff.2 (fun i _ => iiE_iff.2 ⟨rfl, rfl⟩)]; simp
theorem iiL_iff {f0 : Nat → Int} {f1 : Nat → Int} {f0' : Nat → Int} {f1' : Nat → Int} {n n' : Nat} : iiL f0 f1 f0' f1' n n' = true ↔ n = n' ∧ ∀ i, i < n → f0 i = f0' i ∧ f1 i = f1' i := by
  simp only [iiL, Bool.and_eq_true, decide_eq_true_eq, allB_iff, iiE_iff]
def siiC (f0 : Nat → ByteArray) (f1 : Nat → Int) (f2 : Nat → Int) : Nat → Nat → Value := fun i j => if j = 0 then .string (f0 i) else if j = 1 then .int .i64 (f1 i) else .int .i64 (f2 i)
def siiE (a0 : ByteArray) (a1 : Int) (a2 : Int) (a0' : ByteArray) (a1' : Int) (a2' : Int) : Bool := decide (a0 = a0') && decide (a1 = a1') && decide (a2 = a2')
theorem siiE_iff {a0 : ByteArray} {a1 : Int} {a2 : Int} {a0' : ByteArray} {a1' : Int} {a2' : Int} : siiE a0 a1 a2 a0' a1' a2' = true ↔ a0 = a0' ∧ a1 = a1' ∧ a2 = a2' := by simp [siiE] <;> exact and_assoc
def siiL (f0 : Nat → ByteArray) (f1 : Nat → Int) (f2 : Nat → Int) (f0' : Nat → ByteArray) (f1' : Nat → Int) (f2' : Nat → Int) (n n' : Nat) : Bool := decide (n = n') && allB (fun i => siiE (f0 i) (f1 i) (f2 i) (f0' i) (f1' i) (f2' i)) n
theorem siiL_self (f0 : Nat → ByteArray) (f1 : Nat → Int) (f2 : Nat → Int) (n : Nat) : siiL f0 f1 f2 f0 f1 f2 n n = true := by
  rw [siiL, allB_iff.2 (fun i _ => siiE_iff.2 ⟨rfl, rfl, rfl⟩)]; simp
theorem siiL_iff {f0 : Nat → ByteArray} {f1 : Nat → Int} {f2 : Nat → Int} {f0' : Nat → ByteArray} {f1' : Nat → Int} {f2' : Nat → Int} {n n' : Nat} : siiL f0 f1 f2 f0' f1' f2' n n' = true ↔ n = n' ∧ ∀ i, i < n → f0 i = f0' i ∧ f1 i = f1' i ∧ f2 i = f2' i := by
  simp only [siiL, Bool.and_eq_true, decide_eq_true_eq, allB_iff, siiE_iff]
def sisC (f0 : Nat → ByteArray) (f1 : Nat → Int) (f2 : Nat → ByteArray) : Nat → Nat → Value := fun i j => if j = 0 then .string (f0 i) else if j = 1 then .int .i64 (f1 i) else .string (f2 i)
def sisE (a0 : ByteArray) (a1 : Int) (a2 : ByteArray) (a0' : ByteArray) (a1' : Int) (a2' : ByteArray) : Bool := decide (a0 = a0') && decide (a1 = a1') && decide (a2 = a2')
theorem sisE_iff {a0 : ByteArray} {a1 : Int} {a2 : ByteArray} {a0' : ByteArray} {a1' : Int} {a2' : ByteArray} : sisE a0 a1 a2 a0' a1' a2' = true ↔ a0 = a0' ∧ a1 = a1' ∧ a2 = a2' := by simp [sisE] <;> exact and_assoc
def sisL (f0 : Nat → ByteArray) (f1 : Nat → Int) (f2 : Nat → ByteArray) (f0' : Nat → ByteArray) (f1' : Nat → Int) (f2' : Nat → ByteArray) (n n' : Nat) : Bool := decide (n = n') && allB (fun i => sisE (f0 i) (f1 i) (f2 i) (f0' i) (f1' i) (f2' i)) n
theorem sisL_self (f0 : Nat → ByteArray) (f1 : Nat → Int) (f2 : Nat → ByteArray) (n : Nat) : sisL f0 f1 f2 f0 f1 f2 n n = true := by
  rw [sisL, allB_iff.2 (fun i _ => sisE_iff.2 ⟨rfl, rfl, rfl⟩)]; simp
theorem sisL_iff {f0 : Nat → ByteArray} {f1 : Nat → Int} {f2 : Nat → ByteArray} {f0' : Nat → ByteArray} {f1' : Nat → Int} {f2' : Nat → ByteArray} {n n' : Nat} : sisL f0 f1 f2 f0' f1' f2' n n' = true ↔ n = n' ∧ ∀ i, i < n → f0 i = f0' i ∧ f1 i = f1' i ∧ f2 i = f2' i := by
  simp only [sisL, Bool.and_eq_true, decide_eq_true_eq, allB_iff, sisE_iff]

end Go.Proofs.Ytnfhgnibjebmlaa

/-
  Walks: the reference's cursor over the drawn bytes: whatever it draws, it draws something in bounds.-/
namespace Go.Proofs.Ytnfhgnibjebmlaa
set_option linter.unusedVariables false
set_option linter.unusedSimpArgs false
open Go.RowKit

/-- A cursor in block g, that has taken a bytes. -/
def Cur (w : World) (g a : Nat) : Prop :=
  ∃ (A : Option Addr) (L cap : Nat) (f : Nat → Int) (s : Int), w.cell? ⟨g, 0, none⟩ = some (.slice A L cap) ∧ w.cell? ⟨g, 1, none⟩ = some (.int .i64 (a : Nat)) ∧ w.cell? ⟨g, 2, none⟩ = some (.int .u64 s) ∧ (∀ o, w.frozen? ⟨g, o, none⟩ = false) ∧
    (0 ≤ s ∧ s < 18446744073709551616) ∧ L ≤ 9223372036854775807 ∧ (∀ i, i < L → 0 ≤ f i ∧ f i ≤ 255) ∧ (0 < L → ∃ b off, A = some ⟨b, off, none⟩ ∧ b < g ∧ b < w.heap.size ∧ ∀ i, i < L → w.cell? ⟨b, off + i, none⟩ = some (.int .u8 (f i))) ∧ g < w.heap.size
theorem Cur.below {w w' : World} {g a B : Nat} (h : Cur w g a) (hb : Below B w w') (hB : w.heap.size ≤ B) : Cur w' g a := by
  obtain ⟨A, L, cap, f, s, h0, h1, h2, h3, h4, h5, h6, h7, h8⟩ := h
  refine ⟨A, L, cap, f, s, (hb.cell (p := ⟨g, 0, none⟩) (by show g < _; omega)).trans h0, (hb.cell (p := ⟨g, 1, none⟩) (by show g < _; omega)).trans h1, (hb.cell (p := ⟨g, 2, none⟩) (by show g < _; omega)).trans h2, fun o => (hb.frozen (p := ⟨g, o, none⟩) (by show g < _; omega)).trans (h3 o), h4, h5, h6, fun h0 => ?_, Nat.lt_of_lt_of_le h8 hb.size⟩
  obtain ⟨b, off, e, hne, hlt, hc⟩ := h7 h0
  exact ⟨b, off, e, hne, Nat.lt_of_lt_of_le hlt hb.size, fun i hi => (hb.cell (p := ⟨b, off + i, none⟩) (by show b < _; omega)).trans (hc i hi)⟩
theorem Cur.lt {w : World} {g a : Nat} (h : Cur w g a) : g < w.heap.size := by
  obtain ⟨_, _, _, _, _, _, _, _, _, _, _, _, _, h⟩ := h
  exact h
theorem Only.drew {lo hi : Nat} {w w' : World} (h : Only lo hi w w') : Only lo hi w w'.drew := ⟨h.os, h.tape, h.output, h.size, h.block⟩
theorem Only.drewN {lo hi : Nat} {w w' : World} (h : Only lo hi w w') (n : Nat) : Only lo hi w (w'.drewN n) := ⟨h.os, h.tape, h.output, h.size, h.block⟩
theorem Cur.drew {w : World} {g a : Nat} (h : Cur w g a) : Cur w.drew g a := h
theorem and255 (x : Int) : 0 ≤ wrap64 (bits .and .u64 x 255) ∧ wrap64 (bits .and .u64 x 255) ≤ 255 := by
  have h : ∃ n : Nat, n ≤ 255 ∧ bits .and .u64 x 255 = n := by
    refine ⟨(BitVec.ofInt 64 x &&& BitVec.ofInt 64 255).toNat, ?_, ?_⟩
    · rw [BitVec.toNat_and]
      exact Nat.le_trans Nat.and_le_right (by decide)
    · have hle : (BitVec.ofInt 64 x &&& BitVec.ofInt 64 255).toNat ≤ 255 := by
        rw [BitVec.toNat_and]
        exact Nat.le_trans Nat.and_le_right (by decide)
      show IntKind.u64.wrap ((BitVec.ofInt 64 x &&& BitVec.ofInt 64 255).toNat : Int) = _
      rw [IntKind.wrap_u64]
      omega
  obtain ⟨n, hn, e⟩ := h
  rw [e]
  have : wrap64 (n : Int) = (n : Int) := by unfold wrap64; omega
  omega
/-- One byte more is taken. -/
theorem Cur.step {w : World} {g a : Nat} (h : Cur w g a) (x : Int) : Cur ((w.setCell ⟨g, 1, none⟩ (.int .i64 ((a : Int) + 1))).setCell ⟨g, 2, none⟩ (.int .u64 (IntKind.u64.wrap x))) g (a + 1) := by
  obtain ⟨A, L, cap, f, s, h0, h1, h2, h3, h4, h5, h6, h7, h8⟩ := h
  refine ⟨A, L, cap, f, IntKind.u64.wrap x, by simp [go_sem, h0, h1, h2], by simp [go_sem, h0, h1, h2], by simp [go_sem, h0, h1, h2], fun o => by simp [go_sem, h3], ?_, h5, h6, fun hL => ?_, by simp [World.setCell]; exact h8⟩
  · rw [IntKind.wrap_u64]; omega
  · obtain ⟨b, off, rfl, hne, hlt, hc⟩ := h7 hL
    refine ⟨b, off, rfl, hne, by simp [World.setCell]; exact hlt, fun i hi => ?_⟩
    have hb : ∀ v : World, ∀ o u, (v.setCell ⟨g, o, none⟩ u).heap[b]? = v.heap[b]? := fun v o u => Deep.blk_setCell_other _ _ _ _ (by show b ≠ g; omega)
    exact (World.cell?_of_block (a := ⟨b, off + i, none⟩) ((hb _ _ _).trans (hb _ _ _))).trans (hc i hi)
theorem Cur.only {w : World} {g a : Nat} (h : Cur w g a) (x y : Value) : Only g (g + 1) w ((w.setCell ⟨g, 1, none⟩ x).setCell ⟨g, 2, none⟩ y) :=
  ((Only.refl _ _ w).setCell (a := ⟨g, 1, none⟩) (Nat.le_refl _) (Nat.lt_succ_self _) _).setCell (a := ⟨g, 2, none⟩) (Nat.le_refl _) (Nat.lt_succ_self _) _
set_option maxRecDepth 100000 in
set_option maxHeartbeats 1600000 in
theorem next_any (g a : Nat) (w : World) (h : Cur w g a) (ha : a < 1099511627776) :
    Calls Try.prog 81 #[.pointer (some ⟨g, 0, none⟩)] w fun e w' => ∃ v : Int, e = .returned (.int .i64 v) ∧ (0 ≤ v ∧ v ≤ 255) ∧ Cur w' g (a + 1) ∧ Only g (g + 1) w w' := by
  have HH := hide h
  obtain ⟨A, L, cap, f, s, h0, h1, h2, h3, h4, h5, h6, h7, h8⟩ := h
  have H7 := hide h7
  have H6 := hide h6
  have hw1 : IntKind.i64.wrap ((a : Int) + 1) = (a : Int) + 1 := by rw [IntKind.wrap_i64]; omega
  by_cases haL : a < L
  · obtain ⟨b, off, rfl, hne, hlt, hc⟩ := h7 (by omega)
    have hca := hc a haL
    have hfa := h6 a haL
    have d1 : decide ((a : Int) < (L : Int)) = true := decide_eq_true (by omega)
    have d2 : decide ((a : Int) + 1 ≤ (L : Int)) = true := decide_eq_true (by omega)
    clear h7 h6 hc
    go_enter Try.func81, Try.ntmps81
    go_wp2_with fail
    go_quiet (fail)
    go_wp2_with fail
    go_quiet (fail)
    go_wp2_with fail
    go_quiet (fail)
    go_wp2_with fail
    go_ret
    exact ⟨_, rfl, hfa, HH.out.step _, ((((Only.refl _ _ w).drewN _).setCell (a := ⟨g, 1, none⟩) (Nat.le_refl _) (Nat.lt_succ_self _) _).setCell (a := ⟨g, 2, none⟩) (Nat.le_refl _) (Nat.lt_succ_self _) _).drewN _⟩
  · have d1 : decide ((a : Int) < (L : Int)) = false := decide_eq_false (by omega)
    have d2 : decide ((a : Int) + 1 ≤ (L : Int)) = false := decide_eq_false (by omega)
    clear h7 h6
    go_enter Try.func81, Try.ntmps81
    go_wp2_with fail
    go_quiet (fail)
    go_wp2_with fail
    go_quiet (fail)
    go_wp2_with fail
    go_ret
    exact ⟨_, rfl, and255 _, HH.out.step _, ((((Only.refl _ _ w).drewN _).setCell (a := ⟨g, 1, none⟩) (Nat.le_refl _) (Nat.lt_succ_self _) _).setCell (a := ⟨g, 2, none⟩) (Nat.le_refl _) (Nat.lt_succ_self _) _).drewN _⟩

end Go.Proofs.Ytnfhgnibjebmlaa

/-
  Walks: the reference's cursor: a number below a bound; one of a list. Whatever is drawn, it is something.-/
namespace Go.Proofs.Ytnfhgnibjebmlaa
set_option linter.unusedVariables false
set_option linter.unusedSimpArgs false
open Go.RowKit

/-- A cursor that has taken at most m bytes. -/
def Cu (w : World) (g m : Nat) : Prop := ∃ a, a ≤ m ∧ Cur w g a
theorem Cu.lt {w : World} {g m : Nat} (h : Cu w g m) : g < w.heap.size := by
  obtain ⟨_, _, h⟩ := h
  exact h.lt
theorem Cu.below {w w' : World} {g m B : Nat} (h : Cu w g m) (hb : Below B w w') (hB : w.heap.size ≤ B) : Cu w' g m := by
  obtain ⟨a, h1, h⟩ := h
  exact ⟨a, h1, h.below hb hB⟩
theorem Cu.alloc {w : World} {g m : Nat} (h : Cu w g m) (o : Obj) : Cu (w.alloc o) g m := h.below ((Below.refl _ _).alloc (Nat.le_refl _) o) (Nat.le_refl _)
theorem Cu.drew {w : World} {g m : Nat} (h : Cu w g m) : Cu w.drew g m := h
theorem Cu.drewN {w : World} {g m : Nat} (h : Cu w g m) (n : Nat) : Cu (w.drewN n) g m := h
theorem Cu.more {w : World} {g m m' : Nat} (h : Cu w g m) (hm : m ≤ m') : Cu w g m' := by
  obtain ⟨a, h1, h⟩ := h
  exact ⟨a, by omega, h⟩
theorem Cu.set {w : World} {g m : Nat} (h : Cu w g m) {p : Addr} (hp : g < p.block) (u : Value) : Cu (w.setCell p u) g m := by
  obtain ⟨a, ha, A, L, cap, f, s, h0, h1, h2, h3, h4, h5, h6, h7, h8⟩ := h
  have hg : (w.setCell p u).heap[g]? = w.heap[g]? := Deep.blk_setCell_other _ _ _ _ (by omega)
  refine ⟨a, ha, A, L, cap, f, s, (World.cell?_of_block (a := ⟨g, 0, none⟩) hg).trans h0, (World.cell?_of_block (a := ⟨g, 1, none⟩) hg).trans h1, (World.cell?_of_block (a := ⟨g, 2, none⟩) hg).trans h2, fun o => (World.frozen?_of_block (a := ⟨g, o, none⟩) hg).trans (h3 o), h4, h5, h6, fun hL => ?_, by simp [World.setCell]; exact h8⟩
  obtain ⟨b, off, e, hne, hlt, hc⟩ := h7 hL
  have hb : (w.setCell p u).heap[b]? = w.heap[b]? := Deep.blk_setCell_other _ _ _ _ (by omega)
  exact ⟨b, off, e, hne, by simp [World.setCell]; exact hlt, fun i hi => (World.cell?_of_block (a := ⟨b, off + i, none⟩) hb).trans (hc i hi)⟩
theorem Only.alloc {lo hi : Nat} {w w' : World} (h : Only lo hi w w') (o : Obj) : Only lo hi w (w'.alloc o) := h.then_below ((Below.refl _ _).alloc (Nat.le_refl _) o)
theorem Only.setNew {lo hi : Nat} {w w' : World} (h : Only lo hi w w') {a : Addr} (h1 : w.heap.size ≤ a.block) (u : Value) : Only lo hi w (w'.setCell a u) := by
  refine ⟨?_, ?_, ?_, ?_, fun k hk hk' => ?_⟩
  · exact (by simp [World.setCell]; exact h.os)
  · exact (by simp [World.setCell]; exact h.tape)
  · exact (by simp [World.setCell]; exact h.output)
  · exact (by simp [World.setCell]; exact h.size)
  · exact (Deep.blk_setCell_other _ _ _ _ (by omega)).trans (h.block k hk hk')
theorem Only.cell {lo hi : Nat} {w w' : World} (h : Only lo hi w w') {p : Addr} (h1 : p.block < w.heap.size) (h2 : p.block < lo ∨ hi ≤ p.block) : w'.cell? p = w.cell? p := World.cell?_of_block (h.block p.block h1 h2)
def isI : Value → Bool
  | .int .i64 _ => true
  | _ => false
theorem isI_int {v : Value} (h : isI v = true) : ∃ x, v = .int .i64 x := by
  unfold isI at h
  split at h
  · exact ⟨_, rfl⟩
  · cases h
theorem nextU (g m : Nat) (w : World) (h : Cu w g m) (hm : m < 1099511627776) :
    Calls Try.prog 81 #[.pointer (some ⟨g, 0, none⟩)] w fun e w' => ∃ v : Int, e = .returned (.int .i64 v) ∧ (0 ≤ v ∧ v ≤ 255) ∧ Cu w' g (m + 1) ∧ Only g (g + 1) w w' := by
  obtain ⟨a, h1, h⟩ := h
  exact (next_any g a w h (by omega)).mono fun e w' ⟨v, h2, h3, h4, h5⟩ => ⟨v, h2, h3, ⟨a + 1, by omega, h4⟩, h5⟩
set_option maxRecDepth 100000 in
set_option maxHeartbeats 1600000 in
theorem pick_any (g m : Nat) (n : Int) (w : World) (h : Cu w g m) (hm : m < 549755813888) :
    Calls Try.prog 59 #[.pointer (some ⟨g, 0, none⟩), .int .i64 n] w fun e w' => ∃ v : Int, e = .returned (.int .i64 v) ∧ (0 ≤ v ∧ (v < n ∨ v = 0)) ∧ Cu w' g (m + 2) ∧ Only g (g + 1) w w' := by
  by_cases h1 : n ≤ 1
  · go_enter Try.func59, Try.ntmps59
    go_wp2_with fail
    go_ret
    exact ⟨0, rfl, ⟨Int.le_refl _, .inr rfl⟩, h.more (by omega), Only.refl _ _ _⟩
  · have hn0 : ¬ n = 0 := by omega
    by_cases h2 : n > 200
    · go_enter Try.func59, Try.ntmps59
      go_wp2_with fail
      refine (nextU g m _ h (by omega)).mono ?_
      rintro e w1 ⟨v, rfl, hv, hc1, ho1⟩
      go_wp2_with fail
      refine (nextU g (m + 1) _ hc1 (by omega)).mono ?_
      rintro e w2 ⟨u, rfl, hu, hc2, ho2⟩
      have z1 : IntKind.i64.wrap (v * 256) = v * 256 := IntWalk.i64_in _ (by omega)
      have z2 : IntKind.i64.wrap (v * 256 + u) = v * 256 + u := IntWalk.i64_in _ (by omega)
      have z3 : (v * 256 + u).tmod n = (v * 256 + u) % n := Int.tmod_eq_emod_of_nonneg (by omega)
      have z4 := Int.emod_nonneg (v * 256 + u) hn0
      have z5 := Int.emod_lt_of_pos (v * 256 + u) (show 0 < n by omega)
      obtain ⟨r, hr⟩ : ∃ r, r = (v * 256 + u) % n := ⟨_, rfl⟩
      rw [← hr] at z3 z4 z5
      clear hr
      go_wp2_with fail
      go_ret
      exact ⟨r, rfl, ⟨z4, .inl z5⟩, hc2, ho1.trans ho2⟩
    · go_enter Try.func59, Try.ntmps59
      go_wp2_with fail
      refine (nextU g m _ h (by omega)).mono ?_
      rintro e w1 ⟨v, rfl, hv, hc1, ho1⟩
      have z3 : v.tmod n = v % n := Int.tmod_eq_emod_of_nonneg (by omega)
      have z4 := Int.emod_nonneg v hn0
      have z5 := Int.emod_lt_of_pos v (show 0 < n by omega)
      obtain ⟨r, hr⟩ : ∃ r, r = v % n := ⟨_, rfl⟩
      rw [← hr] at z3 z4 z5
      clear hr
      go_wp2_with fail
      go_ret
      exact ⟨r, rfl, ⟨z4, .inl z5⟩, hc1.more (by omega), ho1⟩
set_option maxRecDepth 100000 in
set_option maxHeartbeats 1600000 in
theorem among_any (g m b off n cap : Nat) (w : World) (h : Cu w g m) (hm : m < 549755813888) (hn : 0 < n) (hn' : n ≤ 1000000) (hne : b ≠ g) (hb : b < w.heap.size) (hc : ∀ i, i < n → ∃ x, w.cell? ⟨b, off + i, none⟩ = some (.int .i64 x)) :
    Calls Try.prog 62 #[.pointer (some ⟨g, 0, none⟩), .slice (some ⟨b, off, none⟩) n cap] w fun e w' => ∃ v : Int, e = .returned (.int .i64 v) ∧ (∃ i, i < n ∧ w.cell? ⟨b, off + i, none⟩ = some (.int .i64 v)) ∧ Cu w' g (m + 2) ∧ Only g (g + 1) w w' := by
  have HC := hide hc
  clear hc
  go_enter Try.func62, Try.ntmps62
  go_wp2_with fail
  refine (pick_any g m n _ h hm).mono ?_
  rintro e w1 ⟨v, rfl, hv, hc1, ho1⟩
  obtain ⟨k, rfl⟩ : ∃ k : Nat, v = k := ⟨v.toNat, by omega⟩
  have hk : k < n := by omega
  obtain ⟨x, hx⟩ := HC.out k hk
  have ck : w1.cell? ⟨b, off + k, none⟩ = some (.int .i64 x) := (ho1.cell (p := ⟨b, off + k, none⟩) hb (by show b < g ∨ g + 1 ≤ b; omega)).trans hx
  have hs := ho1.size
  have hb1 : b < w1.heap.size := by omega
  have HX : Hid (∃ i, i < n ∧ w.cell? ⟨b, off + i, none⟩ = some (.int .i64 x)) := ⟨k, hk, hx⟩
  clear hx
  go_wp2_with fail
  go_ret
  exact ⟨x, rfl, HX.out, hc1, ho1⟩
/-- One of a list that was just laid. -/
theorem among_new (g m n q : Nat) (w : World) (cs : Array Value) (t : TypeId) (h : Cu w g m) (hq : q = w.heap.size) (hm : m < 549755813888) (hn : cs.size = n) (hn0 : 0 < n) (hn' : n ≤ 1000000) (hall : cs.all isI = true) :
    Calls Try.prog 62 #[.pointer (some ⟨g, 0, none⟩), .slice (some ⟨q, 0, none⟩) n n] (w.alloc (.cells cs t)) fun e w' => ∃ v : Int, e = .returned (.int .i64 v) ∧ (.int .i64 v) ∈ cs.toList ∧ Cu w' g (m + 2) ∧ Only g (g + 1) w w' := by
  subst hq
  have hlt := h.lt
  refine (among_any g m w.heap.size 0 n n _ (h.alloc _) hm hn0 hn' (by omega) (by simp) fun i hi => ?_).mono fun e w' ⟨v, h1, ⟨i, hi, hv⟩, h2, h3⟩ => ⟨v, h1, ?_, h2, ((Only.refl _ _ w).alloc _).trans h3⟩
  rotate_left
  · rw [Nat.zero_add, World.cell?_alloc_new] at hv
    exact Array.mem_toList_iff.2 (Array.mem_of_getElem? hv)
  have hi' : i < cs.size := by omega
  have h1 := (Array.all_eq_true.1 hall) i hi'
  obtain ⟨x, hx⟩ := isI_int h1
  refine ⟨x, ?_⟩
  rw [Nat.zero_add, World.cell?_alloc_new]
  rw [Array.getElem?_eq_getElem hi', hx]
set_option maxRecDepth 100000 in
set_option maxHeartbeats 1600000 in
theorem one_any (g m : Nat) (n : Int) (w : World) (h : Cu w g m) (hm : m < 549755813888) :
    Calls Try.prog 58 #[.pointer (some ⟨g, 0, none⟩), .int .i64 n] w fun e w' => ∃ b : Bool, e = .returned (.bool b) ∧ Cu w' g (m + 2) ∧ Only g (g + 1) w w' := by
  go_enter Try.func58, Try.ntmps58
  go_wp2_with fail
  refine (pick_any g m n _ h hm).mono ?_
  rintro e w1 ⟨v, rfl, hv, hC, hO⟩
  go_wp2_with fail
  go_ret
  exact ⟨_, rfl, hC, hO⟩

end Go.Proofs.Ytnfhgnibjebmlaa

/-
  Walks: what the reference draws of cylinders: whatever it is.-/
namespace Go.Proofs.Ytnfhgnibjebmlaa
set_option linter.unusedVariables false
set_option linter.unusedSimpArgs false
open Go.RowKit

/-- A box of two integers. -/
structure BxI (w : World) (b : Nat) (x y : Int) : Prop where
  c0 : w.cell? ⟨b, 0, none⟩ = some (.int .i64 x)
  c1 : w.cell? ⟨b, 1, none⟩ = some (.int .i64 y)
  fr : ∀ o, w.frozen? ⟨b, o, none⟩ = false
  lt : b < w.heap.size
section
variable {w w' : World} {b g : Nat} {x y : Int}
theorem BxI.keep (h : BxI w b x y) (hk : w'.heap[b]? = w.heap[b]?) (hs : w.heap.size ≤ w'.heap.size) : BxI w' b x y :=
  ⟨(World.cell?_of_block (a := ⟨b, 0, none⟩) hk).trans h.c0, (World.cell?_of_block (a := ⟨b, 1, none⟩) hk).trans h.c1, fun o => (World.frozen?_of_block (a := ⟨b, o, none⟩) hk).trans (h.fr o), Nat.lt_of_lt_of_le h.lt hs⟩
theorem BxI.only (h : BxI w b x y) (hO : Only g (g + 1) w w') (hne : b ≠ g) : BxI w' b x y := h.keep (hO.block b h.lt (by omega)) hO.size
theorem BxI.alloc (h : BxI w b x y) (o : Obj) : BxI (w.alloc o) b x y := h.keep (((Below.refl _ _).alloc (Nat.le_refl _) o).block b h.lt) (by simp)
theorem BxI.new (w : World) (x y : Int) (t : TypeId) : BxI (w.alloc (.cells #[.int .i64 x, .int .i64 y] t)) w.heap.size x y :=
  ⟨World.cell?_alloc_new _ _ _ _, World.cell?_alloc_new _ _ _ _, fun o => by simp [go_sem], by simp⟩
theorem BxI.set0 (h : BxI w b x y) (x' : Int) : BxI (w.setCell ⟨b, 0, none⟩ (.int .i64 x')) b x' y := by
  have h0 := h.c0
  have h1 := h.c1
  exact ⟨by simp [go_sem, h0, h1], by simp [go_sem, h0, h1], fun o => by simp [go_sem, h.fr], by simp [World.setCell]; exact h.lt⟩
theorem BxI.set1 (h : BxI w b x y) (y' : Int) : BxI (w.setCell ⟨b, 1, none⟩ (.int .i64 y')) b x y' := by
  have h0 := h.c0
  have h1 := h.c1
  exact ⟨by simp [go_sem, h0, h1], by simp [go_sem, h0, h1], fun o => by simp [go_sem, h.fr], by simp [World.setCell]; exact h.lt⟩
theorem BxI.other {b' : Nat} (h : BxI w b x y) (hne : b ≠ b') (o : Nat) (u : Value) : BxI (w.setCell ⟨b', o, none⟩ u) b x y := h.keep (Deep.blk_setCell_other _ _ _ _ hne) (by simp [World.setCell])
end

set_option maxRecDepth 100000 in
set_option maxHeartbeats 1600000 in
theorem barOf_any (g m : Nat) (w : World) (h : Cu w g m) (hm : m < 100000000) :
    Calls Try.prog 60 #[.pointer (some ⟨g, 0, none⟩)] w fun e w' => ∃ v : Int, e = .returned (.int .i64 v) ∧ Cu w' g (m + 10) ∧ Only g (g + 1) w w' := by
  go_enter Try.func60, Try.ntmps60
  go_wp2_with fail
  refine (pick_any g _ _ _ (by repeat (first | (with_reducible refine Cu.alloc ?_ _) | (with_reducible refine Cu.drewN ?_ _) | (with_reducible refine Cu.drew ?_) | (with_reducible assumption))) (by omega)).mono ?_
  rintro e w1 ⟨v1, rfl, hv1, hC1, hO1⟩
  have hz1 := hO1.size
  (try (simp at hz1))
  go_wp2_with fail
  refine (among_new g _ _ _ _ _ _ (by repeat (first | (with_reducible refine Cu.alloc ?_ _) | (with_reducible refine Cu.drewN ?_ _) | (with_reducible refine Cu.drew ?_) | (with_reducible assumption))) (by first | (with_reducible rfl) | simp) (by omega) (by rfl) (by decide) (by decide) (by simp [isI])).mono ?_
  rintro e w2 ⟨v2, rfl, hM2, hC2, hO2⟩
  have hz2 := hO2.size
  (try (simp at hz2))
  go_wp2_with fail
  refine (among_new g _ _ _ _ _ _ (by repeat (first | (with_reducible refine Cu.alloc ?_ _) | (with_reducible refine Cu.drewN ?_ _) | (with_reducible refine Cu.drew ?_) | (with_reducible assumption))) (by first | (with_reducible rfl) | simp) (by omega) (by rfl) (by decide) (by decide) (by simp [isI])).mono ?_
  rintro e w3 ⟨v3, rfl, hM3, hC3, hO3⟩
  have hz3 := hO3.size
  (try (simp at hz3))
  go_wp2_with fail
  go_ret
  exact ⟨_, rfl, hC3.more (by omega), (hO1.trans hO2).trans hO3⟩

end Go.Proofs.Ytnfhgnibjebmlaa

/-
  Walks: drawn arguments of the laws on cylinders.-/
namespace Go.Proofs.Ytnfhgnibjebmlaa
set_option linter.unusedVariables false
set_option linter.unusedSimpArgs false
open Go.RowKit

/-- The cells of a list of bytes. -/
def bC (f : Nat → Int) : Nat → Nat → Value := fun i _ => .int .u8 (f i)
/-- Bytes that are read. -/
structure Code (w : World) (v : Value) : Prop where
  is : ∃ (n hi : Nat) (f : Nat → Int), Sl w 0 hi 1 v n (bC f) ∧ hi ≤ w.heap.size ∧ n ≤ 9223372036854775807 ∧ ∀ i, i < n → 0 ≤ f i ∧ f i ≤ 255
theorem Code.below {w w' : World} {v : Value} {B : Nat} (h : Code w v) (hb : Below B w w') (hB : w.heap.size ≤ B) : Code w' v := by
  obtain ⟨n, hi, f, h1, h2, h3, h4⟩ := h.is
  exact ⟨n, hi, f, h1.below hb (by omega), by have := hb.size; omega, h3, h4⟩
theorem Code.form {w : World} {v : Value} (h : Code w v) : ∃ A n cap, v = .slice A n cap := by
  obtain ⟨n, hi, f, h1, _⟩ := h.is
  obtain ⟨A, cap, e, _⟩ := h1.open_
  exact ⟨A, n, cap, e⟩
theorem Code.len {w : World} {A : Option Addr} {n cap : Nat} (h : Code w (.slice A n cap)) : n ≤ 9223372036854775807 := by
  obtain ⟨m, hi, f, h1, h2, h3, h4⟩ := h.is
  obtain ⟨A', cap', e, _⟩ := h1.open_
  injection e with _ e _
  omega
/-- The cursor's beginning. -/
theorem Cu.start {w : World} {v : Value} (h : Code w v) (t : TypeId) : Cu (w.alloc (.cells #[v, .int .i64 0, .int .u64 0] t)) w.heap.size 0 := by
  obtain ⟨n, hi, f, h1, h2, h3, h4⟩ := h.is
  obtain ⟨A, cap, rfl, hcap, hA⟩ := h1.open_
  refine ⟨0, Nat.le_refl _, A, n, cap, f, 0, World.cell?_alloc_new _ _ _ _, World.cell?_alloc_new _ _ _ _, World.cell?_alloc_new _ _ _ _, fun o => by simp [go_sem], by omega, h3, h4, fun hn => ?_, by simp⟩
  obtain ⟨b, off, e, _, hlt, hc⟩ := hA hn
  refine ⟨b, off, e, by omega, by simp; omega, fun i hi' => ?_⟩
  have h5 := hc i 0 hi' (by omega)
  simp only [Nat.mul_one, Nat.add_zero] at h5
  exact (World.cell?_alloc_lt _ _ _ (by show b < _; omega)).trans h5


end Go.Proofs.Ytnfhgnibjebmlaa

/-
  Lists of the places that pass a test; rows of the call's own that hold them.-/
namespace Go.Proofs.Ytnfhgnibjebmlaa
set_option linter.unusedVariables false
set_option linter.unusedSimpArgs false
open Go.RowKit

/-- The first n that are so. -/
def flt (p : Nat → Bool) : Nat → List Nat
  | 0 => []
  | k + 1 => flt p k ++ if p k = true then [k] else []
theorem flt_len (p : Nat → Bool) : ∀ n, (flt p n).length ≤ n
  | 0 => by simp [flt]
  | k + 1 => by
    have := flt_len p k
    rw [flt, List.length_append]
    split <;> simp <;> omega
theorem flt_yes {p : Nat → Bool} {k : Nat} (h : p k = true) : flt p (k + 1) = flt p k ++ [k] := by rw [flt, if_pos h]
theorem flt_no {p : Nat → Bool} {k : Nat} (h : p k = false) : flt p (k + 1) = flt p k := by rw [flt, h]; simp
def fltV (p : Nat → Bool) (n : Nat) : List Value := (flt p n).map fun (i : Nat) => .int .i64 (i : Int)
def fltI (p : Nat → Bool) (n : Nat) (i : Nat) : Int := ((flt p n).getD i 0 : Nat)
theorem fltV_len (p : Nat → Bool) (n : Nat) : (fltV p n).length = (flt p n).length := by simp [fltV]
/-- A row that holds them. -/
theorem own_flt {w : World} {lo E : Nat} {v : Value} {p : Nat → Bool} {n : Nat} (h : w.ownsRow lo E 1 v (flt p n).length (fltV p n)) : Own w lo w.heap.size E 1 v (flt p n).length (flt p n).length (iC (fltI p n)) := by
  refine ⟨_, h, fun g hg => (h.lt g hg).2, fun i j hi hj => ?_⟩
  obtain rfl : j = 0 := by omega
  simp only [fltV, iC, fltI, Nat.mul_one, Nat.add_zero, List.getElem?_map]
  rw [List.getElem?_eq_getElem hi]
  simp [List.getD, List.getElem?_eq_getElem hi]
theorem row_below {w w' : World} {lo E sz n B : Nat} {v : Value} {xs : List Value} (h : w.ownsRow lo E sz v n xs) (hb : Below B w w') (hB : w.heap.size ≤ B) : w'.ownsRow lo E sz v n xs := by
  obtain ⟨hl, h1⟩ := id h
  refine ⟨hl, ?_⟩
  rcases h1 with h1 | ⟨g, cap, cur, rfl, hg, hh, r⟩
  · exact .inl h1
  · exact .inr ⟨g, cap, cur, rfl, hg, by rw [hb.block g (Nat.lt_of_lt_of_le (h.lt g rfl).2 hB)]; exact hh, r⟩
theorem row_form {w : World} {lo E sz n : Nat} {v : Value} {xs : List Value} (h : w.ownsRow lo E sz v n xs) : ∃ A cap, v = .slice A n cap := by
  rcases h.2 with ⟨h1, h2⟩ | ⟨g, cap, cur, h1, _⟩
  · exact ⟨none, 0, by rw [h1, h2]⟩
  · exact ⟨_, cap, h1⟩
/-- The texts of those places. -/
def fltT (f : Nat → ByteArray) (p : Nat → Bool) (n : Nat) : List Value := (flt p n).map fun (i : Nat) => .string (f i)
def fltS (f : Nat → ByteArray) (p : Nat → Bool) (n : Nat) (i : Nat) : ByteArray := f ((flt p n).getD i 0)
theorem own_fltS {w : World} {lo E : Nat} {v : Value} {f : Nat → ByteArray} {p : Nat → Bool} {n : Nat} (h : w.ownsRow lo E 1 v (flt p n).length (fltT f p n)) : Own w lo w.heap.size E 1 v (flt p n).length (flt p n).length (sC (fltS f p n)) := by
  refine ⟨_, h, fun g hg => (h.lt g hg).2, fun i j hi hj => ?_⟩
  obtain rfl : j = 0 := by omega
  simp only [fltT, sC, fltS, Nat.mul_one, Nat.add_zero, List.getElem?_map]
  rw [List.getElem?_eq_getElem hi]
  simp [List.getD, List.getElem?_eq_getElem hi]

end Go.Proofs.Ytnfhgnibjebmlaa
