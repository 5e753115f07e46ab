/-
  Texts of this proof, one behind the other (part 1).
-/
import Derived.Test.YtpckhpkbdanjoaaDoorRows
import Derived.WalkKit
import Derived.WalkSpells
import Derived.WalkLawsBesides
import Derived.Deep.QuietTactic
import Derived.BigQuiet
import Derived.Lib.Hide
import Derived.ProofKit
import Derived.OpenShut
import Derived.Carry
import Derived.SizedLaws
import Derived.Lib.SmallJoins
import Derived.Deep.Slices
import Derived.Deep.Fields
import Derived.ChangeMaps5
import Derived.Deep.AppendLies
import Derived.Deep.Onto
/-
  Small words for the walks of this seat: hiding, boxes, worlds that only grew. No function of the program in sight.-/
namespace Go.Proofs.YtpckhpkbdanjoaaDoor
set_option linter.unusedVariables false
set_option linter.unusedSimpArgs false
open Go.RowKit

theorem ret_int {k : IntKind} {a b : Int} (h : a = b) : Ending.returned (.int k a) = .returned (.int k b) := by rw [h]
theorem ret_bool {a b : Bool} (h : a = b) : Ending.returned (.bool a) = .returned (.bool b) := by rw [h]
theorem ret_ib {a c : Int} {b d : Bool} (h : a = c) (h' : b = d) : Ending.returned (.tuple #[.int .i64 a, .bool b]) = .returned (.tuple #[.int .i64 c, .bool d]) := by rw [h, h']

/-- Old cells and old marks read as before. -/
theorem bcell {W w1 : World} (hb : Below W.heap.size W w1) : (∀ b o, b < W.heap.size → w1.cell? ⟨b, o, none⟩ = W.cell? ⟨b, o, none⟩) ∧ (∀ b o, b < W.heap.size → w1.frozen? ⟨b, o, none⟩ = W.frozen? ⟨b, o, none⟩) :=
  ⟨fun b o h => hb.cell (p := ⟨b, o, none⟩) h, fun b o h => hb.frozen (p := ⟨b, o, none⟩) h⟩

theorem hide {p : Prop} (h : p) : Hid p := h
theorem quiet_left {P : Program} {f : FuncId} {args : Array Value} {w : World} {n : Nat} {v : Value}
    (h : Calls P f args (w.drewN n) fun e w' => e = .returned v ∧ w.drewN n = w') : Calls P f args (w.drewN n) fun e w'' => e = .returned v ∧ ∃ m, w'' = w.drewN m :=
  h.mono fun _ _ ⟨he, hm⟩ => ⟨he, n, hm.symm⟩
theorem quiet_add_left {P : Program} {f : FuncId} {args : Array Value} {w : World} {a n : Nat} {v : Value}
    (h : Calls P f args (w.drewN (a + n)) fun e w' => e = .returned v ∧ w.drewN (a + n) = w') :
    Calls P f args (w.drewN (a + n)) fun e w'' => e = .returned v ∧ ∃ m, w'' = w.drewN (a + m) :=
  h.mono fun _ _ ⟨he, hm⟩ => ⟨he, n, hm.symm⟩
theorem below_drewN {B : Nat} {a w : World} (h : Below B a w) (n : Nat) : Below B a (w.drewN n) := ⟨h.os, h.tape, h.output, h.size, h.block⟩

/-- A box that was laid, in a later world. -/
theorem box_cell {B : Nat} {W wr : World} {cs : Array Value} {t : TypeId} (hb : Below B (W.alloc (.cells cs t)) wr) (hB : W.heap.size < B) (i : Nat) {v : Value} (h : cs[i]? = some v) : wr.cell? ⟨W.heap.size, i, none⟩ = some v :=
  (hb.cell (p := ⟨W.heap.size, i, none⟩) hB).trans ((World.cell?_alloc_new _ _ _ _).trans h)

/-- The same world but for draws. -/
def Drew (w w' : World) : Prop := ∃ n, w' = w.drewN n
theorem Drew.refl (w : World) : Drew w w := ⟨0, rfl⟩
theorem Drew.drewN {w w' : World} (h : Drew w w') (n : Nat) : Drew w (w'.drewN n) := by
  obtain ⟨m, rfl⟩ := h
  exact ⟨m + n, World.drewN_drewN _ _ _⟩
theorem Drew.trans {a b c : World} (h : Drew a b) (k : Drew b c) : Drew a c := by
  obtain ⟨m, rfl⟩ := k
  exact h.drewN m
theorem Drew.below {w w' : World} (h : Drew w w') (B : Nat) : Below B w w' := by
  obtain ⟨n, rfl⟩ := h
  exact below_drewN (Below.refl _ _) n
theorem quiet_drew {P : Program} {f : FuncId} {args : Array Value} {w : World} {n : Nat} {v : Value}
    (h : Calls P f args (w.drewN n) fun e w' => e = .returned v ∧ Drew (w.drewN n) w') : Calls P f args (w.drewN n) fun e w'' => e = .returned v ∧ ∃ m, w'' = w.drewN m :=
  h.mono fun _ _ ⟨he, m, hm⟩ => ⟨he, n + m, by rw [hm, World.drewN_drewN]⟩
theorem quiet_add_drew {P : Program} {f : FuncId} {args : Array Value} {w : World} {a n : Nat} {v : Value}
    (h : Calls P f args (w.drewN (a + n)) fun e w' => e = .returned v ∧ Drew (w.drewN (a + n)) w') :
    Calls P f args (w.drewN (a + n)) fun e w'' => e = .returned v ∧ ∃ m, w'' = w.drewN (a + m) :=
  h.mono fun _ _ ⟨he, m, hm⟩ => ⟨he, n + m, by rw [hm, World.drewN_drewN, Nat.add_assoc]⟩

end Go.Proofs.YtpckhpkbdanjoaaDoor

/-
  The frame of a law's statement: where the call returns true and nothing below the old heap has turned, the row holds.-/
namespace Go.Proofs.YtpckhpkbdanjoaaDoor
set_option linter.unusedVariables false
set_option linter.unusedSimpArgs false
open Go.ChangeShapes Go.WideShapes Go.ChangeAt Go.RowKit Go.Joins Go.Deep

theorem Tryd.own : ownKnob Tryd.prog.godebug = none := by kernel_rfl
theorem Tryd.laidOut : laidOutB Tryd.prog = true := by kernel_rfl
theorem Tryd.rowed : mapsRowed Tryd.prog = true := by kernel_rfl
theorem Tryd.whole : (Tryd.prog.stopsHeard && Tryd.prog.mayEnter && (!Tryd.prog.liftsFinal) && (Tryd.prog.make == some Make.cut)) = true := by kernel_rfl
theorem Tryd.heard : Tryd.prog.stopsHeard = true := by have h := Tryd.whole; simp only [Bool.and_eq_true] at h; exact h.1.1.1
theorem Tryd.enters : Tryd.prog.mayEnter = true := by have h := Tryd.whole; simp only [Bool.and_eq_true] at h; exact h.1.1.2
theorem Tryd.lifts : Tryd.prog.liftsFinal = false := by have h := Tryd.whole; simp only [Bool.and_eq_true, Bool.not_eq_true'] at h; exact h.1.2
theorem Tryd.made : Tryd.prog.make = some Make.cut := by have h := Tryd.whole; simp only [Bool.and_eq_true, beq_iff_eq] at h; exact h.2

section
variable {H : Type} {enc : TypeId × Value → H} {P : Program}
theorem trodAll_below (hl : laidOutB P = true) {W W' : World} (hb : Below W.heap.size W W') : ∀ {ts : List TypeId} {vs : List Value} {ds : List (DataW H)} {ps : List MemPlace},
    ts.all (fun t => P.readableRec t && decide (t < P.types.size)) = true → DataW.TrodAll enc P W 0 (fun _ => true) true ts vs ds ps → (∀ x ∈ ps, x.block < W.heap.size) →
    DataW.TrodAll enc P W' 0 (fun b => decide (b < W.heap.size)) true ts vs ds ps
  | [], [], [], _, _, h, _ => h
  | t :: ts, v :: vs, d :: ds, ps, hr, h, hlt => by
    obtain ⟨p, q, h1, h2, rfl⟩ := h
    simp only [List.all_cons, Bool.and_eq_true] at hr
    exact ⟨p, q, Below.trod hl hr.1.1 (of_decide_eq_true hr.1.2) h1 hb (fun x hx => hlt x (List.mem_append.2 (.inl hx))), trodAll_below hl hb hr.2 h2 (fun x hx => hlt x (List.mem_append.2 (.inr hx))), rfl⟩
  | [], _ :: _, _, _, _, h, _ => by cases h
  | [], [], _ :: _, _, _, h, _ => by cases h
  | _ :: _, [], _, _, _, h, _ => by cases h
  | _ :: _, _ :: _, [], _, _, h, _ => by cases h

theorem law_post {f : Func} {s : ChangeSpec} {W W' : World} {args : Array Value} {ds : List (DataW H)} {before : List MemPlace} {T : TypeId}
    (hl : laidOutB P = true) (hvars : s.vars = []) (hr : f.params.toList.all (fun t => P.readableRec t && decide (t < P.types.size)) = true)
    (hT : f.resultTypes = #[T]) (hTb : P.underlying T = some .bool)
    (hW : DataW.Whole enc P f.params.toList s.vars false W args.toList ds [] before)
    (hs : s.fn H (ds ++ []) = { results := [.lit (.bool true)], args := ds }) (hb : Below W.heap.size W W') : s.post enc P f false true false false W args (.bool true) W' := by
  have hW' := hW
  obtain ⟨p, q, hA, hV, rfl, _, _⟩ := hW
  have hlt : ∀ x ∈ p ++ q, x.block < W.heap.size := fun x hx => by simpa using hW'.lt x hx
  rw [hvars] at hV
  have hq : q = [] := by simpa [DataW.TrodVars] using hV
  subst hq
  refine ⟨ds, [], p ++ [], [], p, [], hW', ?_, ?_, ?_, ?_, fun h => by cases h⟩
  · rw [hT, hs]
    exact trodAll_mk1 (shut_bool hTb true)
  · rw [hs]
    exact trodAll_below hl hb hr hA (fun x hx => hlt x (by simpa using hx))
  · rw [hs, hvars]
    rfl
  · exact hb.frame _
end

end Go.Proofs.YtpckhpkbdanjoaaDoor

/-
  Words for slices that are read: 'Sl w lo hi sz v n c': v is a slice of n elements of sz cells each, that lie in a block from lo on and below hi; cell j of element i holds 'c i j'. nil is let in (n = 0).-/
namespace Go.Proofs.YtpckhpkbdanjoaaDoor
set_option linter.unusedVariables false
set_option linter.unusedSimpArgs false
open Go.RowKit

def Sl (w : World) (lo hi sz : Nat) (v : Value) (n : Nat) (c : Nat → Nat → Value) : Prop :=
  ∃ A cap, v = .slice A n cap ∧ n ≤ cap ∧ (0 < n → ∃ b off, A = some ⟨b, off, none⟩ ∧ lo ≤ b ∧ b < hi ∧ ∀ i j, i < n → j < sz → w.cell? ⟨b, off + i * sz + j, none⟩ = some (c i j))
/-- What is known of the address, behind the value's form. -/
def SlA (w : World) (lo hi sz : Nat) (A : Option Addr) (n : Nat) (c : Nat → Nat → Value) : Prop :=
  0 < n → ∃ b off, A = some ⟨b, off, none⟩ ∧ lo ≤ b ∧ b < hi ∧ ∀ i j, i < n → j < sz → w.cell? ⟨b, off + i * sz + j, none⟩ = some (c i j)
section
variable {w w' : World} {lo hi lo' hi' sz n cap : Nat} {v : Value} {A : Option Addr} {c : Nat → Nat → Value}
theorem Sl.open_ (h : Sl w lo hi sz v n c) : ∃ A cap, v = .slice A n cap ∧ n ≤ cap ∧ SlA w lo hi sz A n c := h
theorem SlA.shut (h : SlA w lo hi sz A n c) (hc : n ≤ cap) : Sl w lo hi sz (.slice A n cap) n c := ⟨A, cap, rfl, hc, h⟩
theorem SlA.keep (h : SlA w lo hi sz A n c) (hk : ∀ k, lo ≤ k → k < hi → w'.heap[k]? = w.heap[k]?) : SlA w' lo hi sz A n c := fun hn => by
  obtain ⟨b, off, h1, h2, h3, h4⟩ := h hn
  exact ⟨b, off, h1, h2, h3, fun i j hi hj => (World.cell?_of_block (w := w) (hk b h2 h3)).trans (h4 i j hi hj)⟩
theorem SlA.below {B : Nat} (h : SlA w lo hi sz A n c) (hb : Below B w w') (hB : hi ≤ B) : SlA w' lo hi sz A n c := h.keep fun k _ h2 => hb.block k (by omega)
theorem SlA.mono (h : SlA w lo hi sz A n c) (h1 : lo' ≤ lo) (h2 : hi ≤ hi') : SlA w lo' hi' sz A n c := fun hn => by
  obtain ⟨b, off, a1, a2, a3, a4⟩ := h hn
  exact ⟨b, off, a1, by omega, by omega, a4⟩
theorem Sl.keep (h : Sl w lo hi sz v n c) (hk : ∀ k, lo ≤ k → k < hi → w'.heap[k]? = w.heap[k]?) : Sl w' lo hi sz v n c := by
  obtain ⟨A, cap, h1, h2, h3⟩ := h
  exact ⟨A, cap, h1, h2, SlA.keep h3 hk⟩
theorem Sl.below {B : Nat} (h : Sl w lo hi sz v n c) (hb : Below B w w') (hB : hi ≤ B) : Sl w' lo hi sz v n c := h.keep fun k _ h2 => hb.block k (by omega)
theorem Sl.mono (h : Sl w lo hi sz v n c) (h1 : lo' ≤ lo) (h2 : hi ≤ hi') : Sl w lo' hi' sz v n c := by
  obtain ⟨A, cap, a1, a2, a3⟩ := h
  exact ⟨A, cap, a1, a2, SlA.mono a3 h1 h2⟩
theorem SlA.less (h : SlA w lo hi sz A n c) {k : Nat} (hk : k ≤ n) : SlA w lo hi sz A k c := fun h0 => by
  obtain ⟨b, off, a1, a2, a3, a4⟩ := h (by omega)
  exact ⟨b, off, a1, a2, a3, fun i j hi hj => a4 i j (by omega) hj⟩
theorem Sl.nil_ : Sl w lo hi sz (.slice none 0 0) 0 c := ⟨none, 0, rfl, Nat.le_refl _, fun h => absurd h (Nat.lt_irrefl _)⟩
end

/-- All of the first n are so. -/
def allB (p : Nat → Bool) : Nat → Bool
  | 0 => true
  | n + 1 => allB p n && p n
theorem allB_iff {p : Nat → Bool} {n : Nat} : allB p n = true ↔ ∀ i, i < n → p i = true := by
  induction n with
  | zero => simp [allB]
  | succ n ih =>
    simp only [allB, Bool.and_eq_true, ih]
    exact ⟨fun ⟨h1, h2⟩ i hi => by
      rcases Nat.lt_or_ge i n with h | h
      · exact h1 i h
      · obtain rfl : i = n := by omega
        exact h2, fun h => ⟨fun i hi => h i (by omega), h n (by omega)⟩⟩
theorem allB_false {p : Nat → Bool} {n i : Nat} (hi : i < n) (h : p i = false) : allB p n = false := by
  cases ha : allB p n with
  | false => rfl
  | true => rw [allB_iff.1 ha i hi] at h; cases h
/-- Up to here all were so; and this one. -/
theorem upto_snoc {p : Nat → Bool} {k : Nat} (h : ∀ j, j < k → p j = true) (hk : p k = true) : ∀ j, j < k + 1 → p j = true := fun j hj => by
  rcases Nat.lt_or_ge j k with h1 | h1
  · exact h j h1
  · obtain rfl : j = k := by omega
    exact hk

theorem upto_snocF {p : Nat → Bool} {k : Nat} (h : ∀ j, j < k → p j = false) (hk : p k = false) : ∀ j, j < k + 1 → p j = false := fun j hj => by
  rcases Nat.lt_or_ge j k with h1 | h1
  · exact h j h1
  · obtain rfl : j = k := by omega
    exact hk
/-! ### A region that draws its order, whose calls make memory: one walk, in a class of worlds in which the old blocks read as they did. -/
/-- x above W's blocks, W's own blocks below. -/
def ov (W x : World) : World := { x with heap := (W.heap.toList ++ x.heap.toList.drop W.heap.size).toArray, os := W.os, tape := W.tape, output := W.output }
theorem ov_block (W x : World) (k : Nat) (hk : k < W.heap.size) : (ov W x).heap[k]? = W.heap[k]? := by
  simp [ov, List.getElem?_append, hk]
theorem ov_below (W x : World) : Below W.heap.size W (ov W x) := ⟨rfl, rfl, rfl, by simp [ov], fun k hk => ov_block W x k hk⟩
theorem ov_of_below {W w' : World} (h : Below W.heap.size W w') : w' = ov W w' := by
  have hh : w'.heap = (W.heap.toList ++ w'.heap.toList.drop W.heap.size).toArray := by
    apply Array.ext_getElem?
    intro i
    by_cases hi : i < W.heap.size
    · rw [h.block i hi]; simp [List.getElem?_append, hi]
    · simp [List.getElem?_append, hi]
      congr 1
      omega
  cases w' with
  | mk heap tape drawn os output =>
    simp only [ov]
    have h1 := h.os
    have h2 := h.tape
    have h3 := h.output
    simp only at h1 h2 h3 hh
    rw [← hh, h1, h2, h3]
theorem ov_class (W : World) : (fun w' => Below W.heap.size W w') = (fun w' => ∃ x, w' = ov W x) := by
  funext w'
  exact propext ⟨fun h => ⟨w', ov_of_below h⟩, fun ⟨x, hx⟩ => hx ▸ ov_below W x⟩
@[go_sem] theorem ov_cell (W x : World) (b o : Nat) (hb : b < W.heap.size) : (ov W x).cell? ⟨b, o, none⟩ = W.cell? ⟨b, o, none⟩ := (ov_below W x).cell (p := ⟨b, o, none⟩) hb
@[go_sem] theorem ov_frozen (W x : World) (b o : Nat) (hb : b < W.heap.size) : (ov W x).frozen? ⟨b, o, none⟩ = W.frozen? ⟨b, o, none⟩ := (ov_below W x).frozen (p := ⟨b, o, none⟩) hb
theorem wp_region_below_lit {P : Program} {id : Nat} {Q : Exit → Act → World → Prop} {a : Act} {w : World} {l : List Oper} (hm : P.follows .mixedOrders = true) (hB : Region.lexB .any l.toArray = true)
    (h : wpQuiet P l.toArray (fun w' => ∃ x, w' = ov w x) (fun a' => ∀ w', Below w.heap.size w w' → Q .normal a' w') l a) : (Code.region id l.toArray true).wp P Q a w := by
  have e := ov_class w
  refine wp_region_quiet (C := fun w' => ∃ x, w' = ov w x) hm hB ?_ ?_
  · exact (congrFun e _).mp (Below.drew (Below.refl w.heap.size w))
  · have e2 : (fun a' => ∀ w', Below w.heap.size w w' → Q .normal a' w') = (fun a' => ∀ w', (∃ x, w' = ov w x) → Q .normal a' w') := by
      funext a'
      refine propext ⟨fun hq w' hx => hq w' (by have := congrFun e w'; exact this.mpr hx), fun hq w' hb => hq w' ((congrFun e w').mp hb)⟩
    rw [← e2]
    simpa using h
theorem below_ov {B : Nat} {a W x : World} (h : Below B a W) (hB : B ≤ W.heap.size) : Below B a (ov W x) := h.trans ((ov_below W x).mono hB)
theorem quiet_ov {P : Program} {f : FuncId} {args : Array Value} {W x : World} {v : Value}
    (h : Calls P f args (ov W x) fun e w' => e = .returned v ∧ Below (ov W x).heap.size (ov W x) w') : Calls P f args (ov W x) fun e w'' => e = .returned v ∧ ∃ m, w'' = ov W m :=
  h.mono fun _ w' ⟨he, hb⟩ => ⟨he, w', ov_of_below ((ov_below W x).trans (hb.mono (ov_below W x).size))⟩
theorem quiet_ov_same {P : Program} {f : FuncId} {args : Array Value} {W x : World} {v : Value}
    (h : Calls P f args (ov W x) fun e w' => e = .returned v ∧ ov W x = w') : Calls P f args (ov W x) fun e w'' => e = .returned v ∧ ∃ m, w'' = ov W m :=
  h.mono fun _ _ ⟨he, hm⟩ => ⟨he, x, hm.symm⟩

end Go.Proofs.YtpckhpkbdanjoaaDoor

/-
  Arguments that are slices, opened: the value, and the cells of its elements ('SlA').-/
namespace Go.Proofs.YtpckhpkbdanjoaaDoor
set_option linter.unusedVariables false
set_option linter.unusedSimpArgs false
open Go.ChangeShapes Go.WideShapes Go.ChangeAt Go.RowKit Go.Joins Go.Deep

section
variable {H : Type} {enc : TypeId × Value → H} {P : Program} {w : World} {base : Nat} {spare : Nat → Bool} {held : Bool}
theorem cell_lt {a : Addr} {v : Value} (h : w.cell? a = some v) : a.block < w.heap.size ∧ a.spot = none := by
  unfold World.cell? at h
  split at h
  · rename_i c e f hh
    refine ⟨?_, ?_⟩
    · rcases Nat.lt_or_ge a.block w.heap.size with h1 | h1
      · exact h1
      · rw [Array.getElem?_eq_none h1] at hh; cases hh
    · split at h
      · cases h
      · rename_i hs; simpa using hs
  · cases h
/-- A slice whose elements are of whatever type of sz cells, opened at every cell. -/
theorem open_cellsT {t e : TypeId} {d : DataW H} {ps : List MemPlace} {v : Value} {sz fuel : Nat} (ht : P.underlying t = some (.slice e)) (hC : P.cellsOf e = sz) (hsz : 0 < sz)
    (hf' : DataW.trod enc P w 0 spare held fuel t [v] = some (d, ps)) :
    ∃ (A : Option Addr) (n cap : Nat) (V : Nat → Nat → Value), v = .slice A n cap ∧ n ≤ cap ∧ cap ≤ maxLen ∧ SlA w 0 w.heap.size sz A n V ∧
      ∀ i, i < n → ∃ cs' k y, cs'.length = sz ∧ (∀ j, j < sz → cs'[j]? = some (V i j)) ∧ DataW.trod enc P w 0 spare held k e cs' = some y := by
  rcases open_slice ht hf' with ⟨hcs, _⟩ | ⟨a, n, cap, m, k, D, Pl, hcs, hb, hl, hm, hmm, _, hx⟩
  · simp only [List.cons.injEq, and_true] at hcs
    subst hcs
    exact ⟨none, 0, 0, fun _ _ => .bool false, rfl, Nat.le_refl _, Nat.zero_le _, fun h => absurd h (Nat.lt_irrefl _), fun i hi => absurd hi (Nat.not_lt_zero _)⟩
  · simp only [List.cons.injEq, and_true] at hcs
    subst hcs
    have hm' : n ≤ m := by rw [hmm]; split <;> omega
    have hx' : ∀ i, i < n → ∃ cs', w.cells? 0 (a.add (i * sz)) sz = some cs' ∧ DataW.trod enc P w 0 spare held k e cs' = some (D i, Pl i) := fun i hi => by
      have := hx i (by omega)
      rwa [hC] at this
    obtain ⟨C, hCs⟩ := choose_lt (α := List Value) hx'
    refine ⟨some a, n, cap, fun i j => (C i).getD j (.bool false), rfl, hl, hm, fun hn => ?_, fun i hi => ?_⟩
    · have at_ : ∀ i j, i < n → j < sz → w.cell? (a.add (i * sz + j)) = some ((C i).getD j (.bool false)) := fun i j hi hj => by
        obtain ⟨_, hlen, hat⟩ := World.cells?_some (hCs i hi).1
        have := hat j hj
        rw [Go.Deep.add_add] at this
        rw [this, List.getD, List.getElem?_eq_getElem (by omega)]
        rfl
      have h00 := cell_lt (at_ 0 0 hn hsz)
      have hspot : a.spot = none := by
        have h1 := at_ 0 0 hn hsz
        have : a.add (0 * sz + 0) = a := by simp [Addr.add]
        rw [this] at h1
        exact (cell_lt h1).2
      have hblk : a.block < w.heap.size := by
        have h1 := at_ 0 0 hn hsz
        have : a.add (0 * sz + 0) = a := by simp [Addr.add]
        rw [this] at h1
        exact (cell_lt h1).1
      obtain ⟨b, off, sp⟩ := a
      simp only at hspot hblk
      subst hspot
      refine ⟨b, off, rfl, Nat.zero_le _, hblk, fun i j hi hj => ?_⟩
      have := at_ i j hi hj
      unfold Addr.add at this
      split at this
      · rename_i h0
        rw [show off + i * sz + j = off by omega]
        exact this
      · rw [show off + i * sz + j = off + (i * sz + j) by omega]
        exact this
    · obtain ⟨h1, h2⟩ := hCs i hi
      obtain ⟨_, hlen, _⟩ := World.cells?_some h1
      exact ⟨C i, k, _, hlen, fun j hj => by simp [List.getD, List.getElem?_eq_getElem (show j < (C i).length by omega)], h2⟩
theorem open_cells {t e : TypeId} {d : DataW H} {ps : List MemPlace} {v : Value} {r : Reach} {b0 sz : Nat} (ht : P.underlying t = some (.slice e)) (hC : P.cellsOf e = sz) (hsz : 0 < sz)
    (hv : Value.okWide P w r b0 t v) (h : DataW.Trod enc P w 0 spare held t v d ps) :
    ∃ (A : Option Addr) (n cap : Nat) (V : Nat → Nat → Value), v = .slice A n cap ∧ n ≤ cap ∧ cap ≤ maxLen ∧ SlA w 0 w.heap.size sz A n V ∧
      ∀ i, i < n → ∃ cs' k y, cs'.length = sz ∧ (∀ j, j < sz → cs'[j]? = some (V i j)) ∧ DataW.trod enc P w 0 spare held k e cs' = some y := by
  obtain ⟨A, n, cap, rfl⟩ := okWide_slice ht hv
  obtain ⟨fuel, hf⟩ := h
  exact open_cellsT ht hC hsz (show DataW.trod enc P w 0 spare held fuel t [.slice A n cap] = some (d, ps) from hf)
theorem take_one {l : List Value} {j : Nat} {v : Value} (h : l[j]? = some v) : (l.drop j).take 1 = [v] := by
  obtain ⟨hj, rfl⟩ := List.getElem?_eq_some_iff.1 h
  rw [List.drop_eq_getElem_cons hj]
  rfl
/-- One field of an element that is a struct of one-cell fields. -/
theorem field_of {e : TypeId} {fs : Array Field} {k : Nat} {cs : List Value} {y : DataW H × List MemPlace} (he : P.underlying e = some (.struct fs)) (hone : oneCellFields P fs = true) (h : DataW.trod enc P w base spare held k e cs = some y)
    {j : Nat} {f : Field} {v : Value} (hj : fs[j]? = some f) (hv : cs[j]? = some v) : ∃ n z, DataW.trod enc P w base spare held n f.type [v] = some z := by
  obtain ⟨ys, n', hn', hy, hlen, hyl, hf⟩ := DataW.trod_struct he h
  obtain ⟨ho, hk⟩ := hone_of hone j f hj
  have h1 := hf j f hj
  rw [ho, hk, take_one hv] at h1
  have hjl : j < ys.length := by rw [hyl]; exact (Array.getElem?_eq_some_iff.1 hj).1
  exact ⟨n', ys[j], by rw [h1]; exact List.getElem?_eq_getElem hjl⟩
end
theorem int_cell {H : Type} {enc : TypeId × Value → H} {P : Program} {w : World} {base : Nat} {spare : Nat → Bool} {held : Bool} {t : TypeId} {n : Nat} {v : Value} {z : DataW H × List MemPlace} (ht : P.underlying t = some (.int .i64)) (h : DataW.trod enc P w base spare held n t [v] = some z) :
    v = .int .i64 (intOf v) ∧ (Lit.int .i64 (intOf v)).wf = true := by
  obtain ⟨x, h1, _, h3⟩ := DataW.trod_int ht h
  simp only [List.cons.injEq, and_true] at h1
  subst h1
  exact ⟨rfl, h3⟩
def strOf : Value → ByteArray | .string s => s | _ => ByteArray.empty
theorem str_cell {H : Type} {enc : TypeId × Value → H} {P : Program} {w : World} {base : Nat} {spare : Nat → Bool} {held : Bool} {t : TypeId} {n : Nat} {v : Value} {z : DataW H × List MemPlace} (ht : P.underlying t = some .string) (h : DataW.trod enc P w base spare held n t [v] = some z) :
    v = .string (strOf v) ∧ (strOf v).size ≤ maxLen := by
  obtain ⟨x, h1, _, h3⟩ := DataW.trod_string ht h
  simp only [List.cons.injEq, and_true] at h1
  subst h1
  exact ⟨rfl, h3⟩
theorem SlA.congr {w : World} {lo hi sz n : Nat} {A : Option Addr} {c c' : Nat → Nat → Value} (h : SlA w lo hi sz A n c) (hc : ∀ i j, i < n → j < sz → c i j = c' i j) : SlA w lo hi sz A n c' := fun hn => by
  obtain ⟨b, off, h1, h2, h3, h4⟩ := h hn
  exact ⟨b, off, h1, h2, h3, fun i j hi hj => (h4 i j hi hj).trans (by rw [hc i j hi hj])⟩

end Go.Proofs.YtpckhpkbdanjoaaDoor

/-
  Words for slices of the call's own: 'Own w lo hi E sz v n k c': v is a slice of n elements (E: their type, sz cells each) in a block of the call's own from lo on and below hi; its first k elements are known.-/
namespace Go.Proofs.YtpckhpkbdanjoaaDoor
set_option linter.unusedVariables false
set_option linter.unusedSimpArgs false
open Go.RowKit

def Own (w : World) (lo hi E sz : Nat) (v : Value) (n k : Nat) (c : Nat → Nat → Value) : Prop :=
  ∃ xs, w.ownsRow lo E sz v n xs ∧ (∀ g, v.ownBlock = some g → g < hi) ∧ ∀ i j, i < k → j < sz → xs[i * sz + j]? = some (c i j)
theorem lin_lt {n sz i j : Nat} (hi : i < n) (hj : j < sz) : i * sz + j < n * sz := by
  have : (i + 1) * sz ≤ n * sz := Nat.mul_le_mul_right sz hi
  have : (i + 1) * sz = i * sz + sz := Nat.succ_mul i sz
  omega
section
variable {w w' : World} {lo hi lo' hi' E sz n k g cap : Nat} {v u : Value} {c c' : Nat → Nat → Value}
theorem Own.nil_ (w : World) (lo hi E sz : Nat) (c : Nat → Nat → Value) : Own w lo hi E sz (.slice none 0 0) 0 0 c :=
  ⟨[], w.ownsRow_nil lo E sz, fun g h => (by cases h), fun i j h => absurd h (by omega)⟩
theorem Own.sl (h : Own w lo hi E sz v n n c) : Sl w lo hi sz v n c := by
  obtain ⟨xs, ⟨hl, h1⟩, h2, h3⟩ := h
  rcases h1 with ⟨rfl, rfl⟩ | ⟨g, cap, cur, rfl, hg, hh, hnc, hcm, hsz, ht⟩
  · exact Sl.nil_
  · refine ⟨_, _, rfl, hnc, fun hn => ⟨g, 0, rfl, hg, h2 g rfl, fun i j hi hj => ?_⟩⟩
    have h4 := h3 i j hi hj
    have hlt := lin_lt hi hj
    rw [← ht, List.getElem?_take, if_pos hlt] at h4
    rw [Nat.zero_add]
    simpa [World.cell?, hh] using h4
theorem Own.keep (h : Own w lo hi E sz v n k c) (hk : ∀ b, lo ≤ b → b < hi → w'.heap[b]? = w.heap[b]?) : Own w' lo hi E sz v n k c := by
  obtain ⟨xs, ⟨hl, h1⟩, h2, h3⟩ := h
  refine ⟨xs, ⟨hl, ?_⟩, h2, h3⟩
  rcases h1 with h1 | ⟨g, cap, cur, rfl, hg, hh, r⟩
  · exact .inl h1
  · exact .inr ⟨g, cap, cur, rfl, hg, by rw [hk g hg (h2 g rfl)]; exact hh, r⟩
theorem Own.below {B : Nat} (h : Own w lo hi E sz v n k c) (hb : Below B w w') (hB : hi ≤ B) : Own w' lo hi E sz v n k c := h.keep fun b _ h2 => hb.block b (by omega)
theorem Own.mono (h : Own w lo hi E sz v n k c) (h1 : lo' ≤ lo) (h2 : hi ≤ hi') : Own w lo' hi' E sz v n k c := by
  obtain ⟨xs, a, b, d⟩ := h
  exact ⟨xs, a.mono h1, fun g hg => Nat.lt_of_lt_of_le (b g hg) h2, d⟩
theorem Own.alloc (h : Own w lo hi E sz v n k c) (hB : hi ≤ w.heap.size) (o : Obj) : Own (w.alloc o) lo hi E sz v n k c := h.below ((Below.refl _ _).alloc (Nat.le_refl _) o) hB
theorem Own.congr (h : Own w lo hi E sz v n k c) (hc : ∀ i j, i < k → j < sz → c i j = c' i j) : Own w lo hi E sz v n k c' := by
  obtain ⟨xs, a, b, d⟩ := h
  exact ⟨xs, a, b, fun i j hi hj => (d i j hi hj).trans (by rw [hc i j hi hj])⟩
theorem Own.less (h : Own w lo hi E sz v n k c) {k' : Nat} (hk : k' ≤ k) : Own w lo hi E sz v n k' c := by
  obtain ⟨xs, a, b, d⟩ := h
  exact ⟨xs, a, b, fun i j hi hj => d i j (by omega) hj⟩
theorem Own.has (h : Own w lo hi E sz (.slice (some ⟨g, 0, none⟩) n cap) n k c) {o : Nat} (ho : o < n * sz) : ∃ u, w.cell? ⟨g, o, none⟩ = some u := by
  obtain ⟨xs, a, b, d⟩ := h
  have h1 := a.cellAt o ho
  have h2 : o < xs.length := by rw [a.1]; exact ho
  exact ⟨xs[o], by rw [h1]; exact List.getElem?_eq_getElem h2⟩
theorem Own.free (h : Own w lo hi E sz (.slice (some ⟨g, 0, none⟩) n cap) n k c) (o : Nat) : w.frozen? ⟨g, o, none⟩ = false := by
  obtain ⟨xs, a, b, d⟩ := h
  exact a.frozenAt o
theorem Own.at_ (h : Own w lo hi E sz (.slice (some ⟨g, 0, none⟩) n cap) n k c) {i j : Nat} (hi : i < k) (hj : j < sz) (hn : k ≤ n) : w.cell? ⟨g, i * sz + j, none⟩ = some (c i j) := by
  obtain ⟨xs, a, b, d⟩ := h
  rw [a.cellAt _ (lin_lt (by omega) hj)]
  exact d i j hi hj
theorem Own.block (h : Own w lo hi E sz (.slice (some ⟨g, 0, none⟩) n cap) n k c) : lo ≤ g ∧ g < hi := by
  obtain ⟨xs, a, b, d⟩ := h
  exact ⟨(a.lt g rfl).1, b g rfl⟩
theorem Own.store1 (h : Own w lo hi E 1 (.slice (some ⟨g, 0, none⟩) n cap) n k c) (hk : k < n) : Own (w.setCell ⟨g, k, none⟩ (c k 0)) lo hi E 1 (.slice (some ⟨g, 0, none⟩) n cap) n (k + 1) c := by
  obtain ⟨xs, a, b, d⟩ := h
  have hl := a.1
  refine ⟨_, (a.stored k (c k 0)).1, b, fun i j hi hj => ?_⟩
  obtain rfl : j = 0 := by omega
  simp only [Nat.mul_one, Nat.add_zero]
  rcases Nat.lt_or_ge i k with h1 | h1
  · rw [List.getElem?_set_ne (by omega)]
    simpa using d i 0 h1 hj
  · obtain rfl : i = k := by omega
    rw [List.getElem?_set_self (by omega)]
theorem Own.store2 (h : Own w lo hi E 2 (.slice (some ⟨g, 0, none⟩) n cap) n k c) (hk : k < n) :
    Own ((w.setCell ⟨g, k * 2, none⟩ (c k 0)).setCell ⟨g, k * 2 + 1, none⟩ (c k 1)) lo hi E 2 (.slice (some ⟨g, 0, none⟩) n cap) n (k + 1) c := by
  obtain ⟨xs, a, b, d⟩ := h
  have hl := a.1
  refine ⟨_, ((a.stored (k * 2) (c k 0)).1.stored (k * 2 + 1) (c k 1)).1, b, fun i j hi hj => ?_⟩
  rcases Nat.lt_or_ge i k with h1 | h1
  · rw [List.getElem?_set_ne (by omega), List.getElem?_set_ne (by omega)]
    exact d i j h1 hj
  · obtain rfl : i = k := by omega
    match j, hj with
    | 0, _ => rw [List.getElem?_set_ne (by omega)]; exact List.getElem?_set_self (by omega)
    | 1, _ => rw [List.getElem?_set_self (by rw [List.length_set]; omega)]
theorem Own.store3 (h : Own w lo hi E 3 (.slice (some ⟨g, 0, none⟩) n cap) n k c) (hk : k < n) :
    Own (((w.setCell ⟨g, k * 3, none⟩ (c k 0)).setCell ⟨g, k * 3 + 1, none⟩ (c k 1)).setCell ⟨g, k * 3 + 2, none⟩ (c k 2)) lo hi E 3 (.slice (some ⟨g, 0, none⟩) n cap) n (k + 1) c := by
  obtain ⟨xs, a, b, d⟩ := h
  have hl := a.1
  refine ⟨_, (((a.stored (k * 3) (c k 0)).1.stored (k * 3 + 1) (c k 1)).1.stored (k * 3 + 2) (c k 2)).1, b, fun i j hi hj => ?_⟩
  rcases Nat.lt_or_ge i k with h1 | h1
  · rw [List.getElem?_set_ne (by omega), List.getElem?_set_ne (by omega), List.getElem?_set_ne (by omega)]
    exact d i j h1 hj
  · obtain rfl : i = k := by omega
    match j, hj with
    | 0, _ => rw [List.getElem?_set_ne (by omega), List.getElem?_set_ne (by omega)]; exact List.getElem?_set_self (by omega)
    | 1, _ => rw [List.getElem?_set_ne (by omega), List.getElem?_set_self (by rw [List.length_set]; omega)]
    | 2, _ => rw [List.getElem?_set_self (by rw [List.length_set, List.length_set]; omega)]
theorem Own.store4 (h : Own w lo hi E 4 (.slice (some ⟨g, 0, none⟩) n cap) n k c) (hk : k < n) :
    Own ((((w.setCell ⟨g, k * 4, none⟩ (c k 0)).setCell ⟨g, k * 4 + 1, none⟩ (c k 1)).setCell ⟨g, k * 4 + 2, none⟩ (c k 2)).setCell ⟨g, k * 4 + 3, none⟩ (c k 3)) lo hi E 4 (.slice (some ⟨g, 0, none⟩) n cap) n (k + 1) c := by
  obtain ⟨xs, a, b, d⟩ := h
  have hl := a.1
  refine ⟨_, ((((a.stored (k * 4) (c k 0)).1.stored (k * 4 + 1) (c k 1)).1.stored (k * 4 + 2) (c k 2)).1.stored (k * 4 + 3) (c k 3)).1, b, fun i j hi hj => ?_⟩
  rcases Nat.lt_or_ge i k with h1 | h1
  · rw [List.getElem?_set_ne (by omega), List.getElem?_set_ne (by omega), List.getElem?_set_ne (by omega), List.getElem?_set_ne (by omega)]
    exact d i j h1 hj
  · obtain rfl : i = k := by omega
    match j, hj with
    | 0, _ => rw [List.getElem?_set_ne (by omega), List.getElem?_set_ne (by omega), List.getElem?_set_ne (by omega)]; exact List.getElem?_set_self (by omega)
    | 1, _ => rw [List.getElem?_set_ne (by omega), List.getElem?_set_ne (by omega), List.getElem?_set_self (by rw [List.length_set]; omega)]
    | 2, _ => rw [List.getElem?_set_ne (by omega), List.getElem?_set_self (by rw [List.length_set, List.length_set]; omega)]
    | 3, _ => rw [List.getElem?_set_self (by rw [List.length_set, List.length_set, List.length_set]; omega)]
end

end Go.Proofs.YtpckhpkbdanjoaaDoor

/-
  The cells of plain data: a slice's element i, field j (printed by gen_data.py).-/
namespace Go.Proofs.YtpckhpkbdanjoaaDoor
set_option linter.unusedVariables false
set_option linter.unusedSimpArgs false
open Go.RowKit

theorem str_beq (a b : ByteArray) : (a.toList == b.toList) = decide (a = b) := by
  rw [ByteArray.toList_eq, ByteArray.toList_eq]
  by_cases h : a = b
  · simp [h]
  · have h2 : ¬ a.data.toList = b.data.toList := fun e => h (WideShapes.bytes_inj e)
    rw [decide_eq_false h]
    simpa using h2
/-- What is left of a budget. -/
def leftF (left : Int) (n : Nat) : Int := if left < n then -1 else left - n
def iC (f0 : Nat → Int) : Nat → Nat → Value := fun i _ => .int .i64 (f0 i)
def iE (a0 : Int) (a0' : Int) : Bool := decide (a0 = a0')
theorem iE_iff {a0 : Int} {a0' : Int} : iE a0 a0' = true ↔ a0 = a0' := by simp [iE]
def iL (f0 : Nat → Int) (f0' : Nat → Int) (n n' : Nat) : Bool := decide (n = n') && allB (fun i => iE (f0 i) (f0' i)) n
theorem iL_self (f0 : Nat → Int) (n : Nat) : iL f0 f0 n n = true := by
  rw [iL, allB_iff.2 (fun i _ => iE_iff.2 rfl)]; simp
theorem iL_iff {f0 : Nat → Int} {f0' : Nat → Int} {n n' : Nat} : iL f0 f0' n n' = true ↔ n = n' ∧ ∀ i, i < n → f0 i = f0' i := by
  simp only [iL, Bool.and_eq_true, decide_eq_true_eq, allB_iff, iE_iff]
def sC (f0 : Nat → ByteArray) : Nat → Nat → Value := fun i _ => .string (f0 i)
def sE (a0 : ByteArray) (a0' : ByteArray) : Bool := decide (a0 = a0')
theorem sE_iff {a0 : ByteArray} {a0' : ByteArray} : sE a0 a0' = true ↔ a0 = a0' := by simp [sE]
def sL (f0 : Nat → ByteArray) (f0' : Nat → ByteArray) (n n' : Nat) : Bool := decide (n = n') && allB (fun i => sE (f0 i) (f0' i)) n
theorem sL_self (f0 : Nat → ByteArray) (n : Nat) : sL f0 f0 n n = true := by
  rw [sL, allB_iff.2 (fun i _ => sE_iff.2 rfl)]; simp
theorem sL_iff {f0 : Nat → ByteArray} {f0' : Nat → ByteArray} {n n' : Nat} : sL f0 f0' n n' = true ↔ n = n' ∧ ∀ i, i < n → f0 i = f0' i := by
  simp only [sL, Bool.and_eq_true, decide_eq_true_eq, allB_iff, sE_iff]
def iiC (f0 : Nat → Int) (f1 : Nat → Int) : Nat → Nat → Value := fun i j => if j = 0 then .int .i64 (f0 i) else .int .i64 (f1 i)
def iiE (a0 : Int) (a1 : Int) (a0' : Int) (a1' : Int) : Bool := decide (a0 = a0') && decide (a1 = a1')
theorem iiE_iff {a0 : Int} {a1 : Int} {a0' : Int} {a1' : Int} : iiE a0 a1 a0' a1' = true ↔ a0 = a0' ∧ a1 = a1' := by simp [iiE]
def iiL (f0 : Nat → Int) (f1 : Nat → Int) (f0' : Nat → Int) (f1' : Nat → Int) (n n' : Nat) : Bool := decide (n = n') && allB (fun i => iiE (f0 i) (f1 i) (f0' i) (f1' i)) n
theorem iiL_self (f0 : Nat → Int) (f1 : Nat → Int) (n : Nat) : iiL f0 f1 f0 f1 n n = true := by
  rw [iiL, allB_iff.2 (fun i _ => iiE_iff.2 ⟨rfl, rfl⟩)]; simp
theorem iiL_iff {f0 : Nat → Int} {f1 : Nat → Int} {f0' : Nat → Int} {f1' : Nat → Int} {n n' : Nat} : iiL f0 f1 f0' f1' n n' = true ↔ n = n' ∧ ∀ i, i < n → f0 i = f0' i ∧ f1 i = f1' i := by
  simp only [iiL, Bool.and_eq_true, decide_eq_true_eq, allB_iff, iiE_iff]
def siiC (f0 : Nat → ByteArray) (f1 : Nat → Int) (f2 : Nat → Int) : Nat → Nat → Value := fun i j => if j = 0 then .string (f0 i) else if j = 1 then .int .i64 (f1 i) else .int .i64 (f2 i)
def siiE (a0 : ByteArray) (a1 : Int) (a2 : Int) (a0' : ByteArray) (a1' : Int) (a2' : Int) : Bool := decide (a0 = a0') && decide (a1 = a1') && decide (a2 = a2')
theorem siiE_iff {a0 : ByteArray} {a1 : Int} {a2 : Int} {a0' : ByteArray} {a1' : Int} {a2' : Int} : siiE a0 a1 a2 a0' a1' a2' = true ↔ a0 = a0' ∧ a1 = a1' ∧ a2 = a2' := by simp [siiE] <;> exact and_assoc
def siiL (f0 : Nat → ByteArray) (f1 : Nat → Int) (f2 : Nat → Int) (f0' : Nat → ByteArray) (f1' : Nat → Int) (f2' : Nat → Int) (n n' : Nat) : Bool := decide (n = n') && allB (fun i => siiE (f0 i) (f1 i) (f2 i) (f0' i) (f1' i) (f2' i)) n
theorem siiL_self (f0 : Nat → ByteArray) (f1 : Nat → Int) (f2 : Nat → Int) (n : Nat) : siiL f0 f1 f2 f0 f1 f2 n n = true := by
  rw [siiL, allB_iff.2 (fun i _ => siiE_iff.2 ⟨rfl, rfl, rfl⟩)]; simp
theorem siiL_iff {f0 : Nat → ByteArray} {f1 : Nat → Int} {f2 : Nat → Int} {f0' : Nat → ByteArray} {f1' : Nat → Int} {f2' : Nat → Int} {n n' : Nat} : siiL f0 f1 f2 f0' f1' f2' n n' = true ↔ n = n' ∧ ∀ i, i < n → f0 i = f0' i ∧ f1 i = f1' i ∧ f2 i = f2' i := by
  simp only [siiL, Bool.and_eq_true, decide_eq_true_eq, allB_iff, siiE_iff]
def sisC (f0 : Nat → ByteArray) (f1 : Nat → Int) (f2 : Nat → ByteArray) : Nat → Nat → Value := fun i j => if j = 0 then .string (f0 i) else if j = 1 then .int .i64 (f1 i) else .string (f2 i)
def sisE (a0 : ByteArray) (a1 : Int) (a2 : ByteArray) (a0' : ByteArray) (a1' : Int) (a2' : ByteArray) : Bool := decide (a0 = a0') && decide (a1 = a1') && decide (a2 = a2')
theorem sisE_iff {a0 : ByteArray} {a1 : Int} {a2 : ByteArray} {a0' : ByteArray} {a1' : Int} {a2' : ByteArray} : sisE a0 a1 a2 a0' a1' a2' = true ↔ a0 = a0' ∧ a1 = a1' ∧ a2 = a2' := by simp [sisE] <;> exact and_assoc
def sisL (f0 : Nat → ByteArray) (f1 : Nat → Int) (f2 : Nat → ByteArray) (f0' : Nat → ByteArray) (f1' : Nat → Int) (f2' : Nat → ByteArray) (n n' : Nat) : Bool := decide (n = n') && allB (fun i => sisE (f0 i) (f1 i) (f2 i) (f0' i) (f1' i) (f2' i)) n
theorem sisL_self (f0 : Nat → ByteArray) (f1 : Nat → Int) (f2 : Nat → ByteArray) (n : Nat) : sisL f0 f1 f2 f0 f1 f2 n n = true := by
  rw [sisL, allB_iff.2 (fun i _ => sisE_iff.2 ⟨rfl, rfl, rfl⟩)]; simp
theorem sisL_iff {f0 : Nat → ByteArray} {f1 : Nat → Int} {f2 : Nat → ByteArray} {f0' : Nat → ByteArray} {f1' : Nat → Int} {f2' : Nat → ByteArray} {n n' : Nat} : sisL f0 f1 f2 f0' f1' f2' n n' = true ↔ n = n' ∧ ∀ i, i < n → f0 i = f0' i ∧ f1 i = f1' i ∧ f2 i = f2' i := by
  simp only [sisL, Bool.and_eq_true, decide_eq_true_eq, allB_iff, sisE_iff]

end Go.Proofs.YtpckhpkbdanjoaaDoor

/-
  An argument that is a list of String, opened (printed by gen_data.py).-/
namespace Go.Proofs.YtpckhpkbdanjoaaDoor
set_option linter.unusedVariables false
set_option linter.unusedSimpArgs false
open Go.ChangeShapes Go.WideShapes Go.ChangeAt Go.RowKit Go.Joins Go.Deep

theorem Tryd.cells9 : Tryd.prog.cellsOf 9 = 1 := by kernel_rfl
set_option maxRecDepth 100000 in
theorem openStringT {H : Type} {enc : TypeId × Value → H} {W : World} {spare : Nat → Bool} {held : Bool} {v : Value} {d : DataW H} {ps : List MemPlace} {fuel : Nat}
    (h : DataW.trod enc Tryd.prog W 0 spare held fuel 22 [v] = some (d, ps)) :
    ∃ (A : Option Addr) (n cap : Nat) (f0 : Nat → ByteArray), v = .slice A n cap ∧ n ≤ cap ∧ cap ≤ maxLen ∧ SlA W 0 W.heap.size 1 A n (sC f0) ∧ (∀ i, i < n → (f0 i).size ≤ maxLen) := by
  obtain ⟨A, n, cap, V, rfl, h1, h2, h3, h4⟩ := open_cellsT Tryd.underlying22 Tryd.cells9 (by omega) h
  refine ⟨A, n, cap, fun i => strOf (V i 0), rfl, h1, h2, h3.congr fun i j hi hj => ?_, fun i hi => by
    obtain ⟨cs', k, y, hl, hc, hy⟩ := h4 i hi
    have hcs : cs' = [V i 0] := by
      match cs', hl with
      | [x], _ => have := hc 0 (by omega); simp at this; rw [this]
    rw [hcs] at hy
    exact (str_cell Tryd.underlying9 hy).2⟩
  obtain ⟨cs', k, y, hl, hc, hy⟩ := h4 i hi
  match j, hj with
  | 0, hj =>
    have hcs : cs' = [V i 0] := by
      match cs', hl with
      | [x], _ => have := hc 0 hj; simp at this; rw [this]
    rw [hcs] at hy
    exact (str_cell Tryd.underlying9 hy).1
set_option maxRecDepth 100000 in
theorem openString {H : Type} {enc : TypeId × Value → H} {W : World} {spare : Nat → Bool} {held : Bool} {v : Value} {d : DataW H} {ps : List MemPlace} {r : Reach} {b0 : Nat}
    (hv : Value.okWide Tryd.prog W r b0 22 v) (h : DataW.Trod enc Tryd.prog W 0 spare held 22 v d ps) :
    ∃ (A : Option Addr) (n cap : Nat) (f0 : Nat → ByteArray), v = .slice A n cap ∧ n ≤ cap ∧ cap ≤ maxLen ∧ SlA W 0 W.heap.size 1 A n (sC f0) ∧ (∀ i, i < n → (f0 i).size ≤ maxLen) := by
  obtain ⟨A, n, cap, rfl⟩ := okWide_slice Tryd.underlying22 hv
  obtain ⟨fuel, hf⟩ := h
  exact openStringT (show DataW.trod enc Tryd.prog W 0 spare held fuel 22 [.slice A n cap] = some (d, ps) from hf)

end Go.Proofs.YtpckhpkbdanjoaaDoor

/-
  Walks: the laws' own helpers for String: copies, comparisons, sizes (printed by gen_data.py).-/
namespace Go.Proofs.YtpckhpkbdanjoaaDoor
set_option linter.unusedVariables false
set_option linter.unusedSimpArgs false
open Go.RowKit

theorem infoString : (Tryd.prog.info? 9).map (fun i => (i.zero, i.size, i.bytes)) = some (some (.string ⟨#[]⟩), 1, 16) := by kernel_rfl
set_option maxRecDepth 100000 in
set_option maxHeartbeats 1600000 in
theorem toStringS_any (f0 : Nat → ByteArray) (n lo hi : Nat) (v : Value) (w : World) (hv : Sl w lo hi 1 v n (sC f0)) (hhi : hi ≤ w.heap.size) (hn : n ≤ 1048576) :
    Calls Tryd.prog 12 #[v] w fun e w' => ∃ v', e = .returned v' ∧ Own w' w.heap.size w'.heap.size 9 1 v' n n (sC f0) ∧ Below w.heap.size w w' := by
  obtain ⟨A, cap, rfl, hcap, hA⟩ := hv.open_
  clear hv
  obtain ⟨i0, hi0, hz0, hz1, hz2⟩ := info_parts infoString
  go_enter Tryd.func12, Tryd.ntmps12
  go_wp2_with (at_make; refine wpList_make_full _ rfl (.tmp 6) (.tmp 6) 22 rfl w.heap.size 9 i0 _ 1 Tryd.underlying22 hi0 hz0 hz1 .i64 .i64 n n n rfl rfl rfl rfl (by rw [hz2]; omega) (by unfold maxLen; omega) (Nat.le_refl _) ?_; intro w1 hown1 hg1)
  have hlt1 : w.heap.size < w1.heap.size := (hown1.lt _ rfl).2
  have hb1 : Below w.heap.size w w1 := (Below.refl _ _).grown hg1 (Nat.le_refl _) (fun k h => by cases h)
  have ho1 : Own w1 w.heap.size (w.heap.size + 1) 9 1 (.slice (some ⟨w.heap.size, 0, none⟩) n n) n 0 (sC f0) := ⟨_, hown1, fun g hg => by cases hg; exact Nat.lt_succ_self _, fun i j h => absurd h (by omega)⟩
  clear hown1 hg1
  go_loopw [4] (fun i wr => ∃ k : Nat, k ≤ n ∧ i = .int .i64 k ∧ Own wr w.heap.size (w.heap.size + 1) 9 1 (.slice (some ⟨w.heap.size, 0, none⟩) n n) n k (sC f0) ∧ Below w.heap.size w wr ∧ w.heap.size < wr.heap.size) (fun i _ => n - (intOf i).toNat)
  case atStart => exact ⟨0, by omega, rfl, ho1, hb1, hlt1⟩
  case round =>
    obtain ⟨k, hk, rfl, ho, hb, hlt⟩ := hrel
    by_cases hkn : k < n
    · obtain ⟨blk, off, rfl, h1, h2, h3⟩ := (hA.below hb (by omega)) (by omega)
      have c0 : wr.cell? ⟨blk, off + k, none⟩ = some (.string (f0 k)) := by have hh := h3 k 0 hkn (by omega); rw [Nat.mul_one, Nat.add_zero] at hh; exact hh
      clear h3 hA
      obtain ⟨u0, hu0⟩ := ho.has (o := k) (by omega)
      have g0 := ho.free k
      have HO := hide ho
      clear ho
      go_wp2_with fail
      go_roundw
      case rel => exact ⟨k + 1, by omega, by go_num, HO.out.store1 hkn, (by repeat (first | (with_reducible exact Below.refl _ _) | (with_reducible refine below_ov ?_ ?_) | (with_reducible refine Below.setCell ?_ ?_ _) | (with_reducible refine Below.alloc ?_ ?_ _) | (with_reducible refine Below.drew ?_) | (with_reducible refine below_drewN ?_ _) | (refine Below.trans ?_ (Below.mono ‹Below _ _ _› (by first | omega | (simp; done) | (simp; omega)))) | exact Below.refl _ _ | omega | (focus (simp; done)) | (focus (simp; omega)))), by simp; omega⟩
      case measure => simp [intOf]; omega
    · obtain rfl : k = n := by omega
      go_wp2_with fail
      go_ret
      exact ⟨_, rfl, ho.mono (Nat.le_refl _) (by omega), hb⟩
set_option maxRecDepth 100000 in
set_option maxHeartbeats 1600000 in
theorem eqStringS_any (f0 : Nat → ByteArray) (f0' : Nat → ByteArray) (n n' lo hi lo' hi' : Nat) (v v' : Value) (w : World) (hv : Sl w lo hi 1 v n (sC f0)) (hv' : Sl w lo' hi' 1 v' n' (sC f0')) (hhi : hi ≤ w.heap.size) (hhi' : hi' ≤ w.heap.size) (hn : n ≤ 4611686018427387904) (hn' : n' ≤ 4611686018427387904) :
    Calls Tryd.prog 16 #[v, v'] w fun e w' => e = .returned (.bool (sL f0 f0' n n')) ∧ Below w.heap.size w w' := by
  obtain ⟨A, cap, rfl, hcap, hA⟩ := hv.open_
  obtain ⟨A', cap', rfl, hcap', hA'⟩ := hv'.open_
  clear hv hv'
  by_cases hnn : n = n'
  · subst hnn
    go_enter Tryd.func16, Tryd.ntmps16
    go_wp2_with fail
    go_loopw [5] (fun i wr => ∃ k : Nat, k ≤ n ∧ i = .int .i64 k ∧ Hid (∀ j, j < k → sE (f0 j) (f0' j) = true) ∧ Below w.heap.size w wr) (fun i _ => n - (intOf i).toNat)
    case atStart => exact ⟨0, by omega, rfl, fun j hj => by omega, Below.refl _ _⟩
    case round =>
      obtain ⟨k, hk, rfl, hj, hb⟩ := hrel
      have hzr := hb.size
      by_cases hkn : k < n
      · obtain ⟨blk, off, rfl, h1, h2, h3⟩ := (hA.below hb (by omega)) (by omega)
        obtain ⟨blk', off', rfl, h1', h2', h3'⟩ := (hA'.below hb (by omega)) (by omega)
        have c0 : wr.cell? ⟨blk, off + k, none⟩ = some (.string (f0 k)) := by have hh := h3 k 0 hkn (by omega); rw [Nat.mul_one, Nat.add_zero] at hh; exact hh
        have e0 : wr.cell? ⟨blk', off' + k, none⟩ = some (.string (f0' k)) := by have hh := h3' k 0 hkn (by omega); rw [Nat.mul_one, Nat.add_zero] at hh; exact hh
        have g1 : blk < wr.heap.size := by omega
        have g2 : blk' < wr.heap.size := by omega
        clear h3 hA h3' hA'
        cases he : sE (f0 k) (f0' k) with
        | false =>
          have HF : Hid (sL f0 f0' n n = false) := by
            show sL f0 f0' n n = false
            rw [sL, allB_false hkn he]; simp
          have hq : ((f0 k).toList == (f0' k).toList) = false := by rw [str_beq]; simpa [sE] using he
          go_wp2_with fail
          go_quiet (fail)
          go_wp2
          go_ret
          exact ⟨ret_bool HF.out.symm, (by repeat (first | (with_reducible exact Below.refl _ _) | (with_reducible refine below_ov ?_ ?_) | (with_reducible refine Below.setCell ?_ ?_ _) | (with_reducible refine Below.alloc ?_ ?_ _) | (with_reducible refine Below.drew ?_) | (with_reducible refine below_drewN ?_ _) | (refine Below.trans ?_ (Below.mono ‹Below _ _ _› (by first | omega | (simp; done) | (simp; omega)))) | exact Below.refl _ _ | omega | (focus (simp; done)) | (focus (simp; omega))))⟩
        | true =>
          have HG := hide he
          have hq : ((f0 k).toList == (f0' k).toList) = true := by rw [str_beq]; simpa [sE] using he
          go_wp2_with fail
          go_quiet (fail)
          go_wp2
          go_roundw
          case rel => exact ⟨k + 1, by omega, by go_num, upto_snoc hj.out HG.out, (by repeat (first | (with_reducible exact Below.refl _ _) | (with_reducible refine below_ov ?_ ?_) | (with_reducible refine Below.setCell ?_ ?_ _) | (with_reducible refine Below.alloc ?_ ?_ _) | (with_reducible refine Below.drew ?_) | (with_reducible refine below_drewN ?_ _) | (refine Below.trans ?_ (Below.mono ‹Below _ _ _› (by first | omega | (simp; done) | (simp; omega)))) | exact Below.refl _ _ | omega | (focus (simp; done)) | (focus (simp; omega))))⟩
          case measure => simp [intOf]; omega
      · obtain rfl : k = n := by omega
        have HE : Hid (sL f0 f0' k k = true) := by
          show sL f0 f0' k k = true
          rw [sL, allB_iff.2 hj.out]; simp
        go_wp2_with fail
        go_ret
        exact ⟨ret_bool HE.out.symm, hb⟩
  · have hne : ((n : Int) != (n' : Int)) = true := by rw [bne_iff_ne]; omega
    go_enter Tryd.func16, Tryd.ntmps16
    go_wp2_with fail
    go_ret
    exact ⟨ret_bool (by simp [sL, hnn]), Below.refl _ _⟩

end Go.Proofs.YtpckhpkbdanjoaaDoor

/-
  How much of a budget a list of texts takes.-/
namespace Go.Proofs.YtpckhpkbdanjoaaDoor
set_option linter.unusedVariables false
set_option linter.unusedSimpArgs false
open Go.RowKit

def sz1F (left : Int) (a : Nat) : Int := if left < a then -1 else left - a
def szP (left : Int) (a : Nat → Nat) : Nat → Int
  | 0 => left
  | k + 1 => if szP left a k < 0 then -1 else sz1F (szP left a k) (a k)
def szPF (left : Int) (c : Nat → ByteArray) (n : Nat) : Int := if left < n then -1 else szP (left - n) (fun i => (c i).size) n
theorem szP_le {left : Int} {a : Nat → Nat} (h : 0 ≤ left) : ∀ k, -1 ≤ szP left a k ∧ szP left a k ≤ left
  | 0 => by simp only [szP]; omega
  | k + 1 => by
    have := szP_le (a := a) h k
    simp only [szP, sz1F]
    split
    · omega
    · split <;> omega
theorem szP_neg {left : Int} {a : Nat → Nat} {k n : Nat} (h : szP left a k < 0) (hk : k < n) : szP left a n = -1 := by
  induction n with
  | zero => omega
  | succ n ih =>
    simp only [szP]
    rcases Nat.lt_or_ge k n with h1 | h1
    · rw [ih h1]; rfl
    · obtain rfl : k = n := by omega
      rw [if_pos h]
theorem szPF_n {left : Int} {c : Nat → ByteArray} {n : Nat} (h : 0 ≤ szPF left c n) : (n : Int) ≤ left := by
  unfold szPF at h
  split at h <;> omega

end Go.Proofs.YtpckhpkbdanjoaaDoor

/-
  Walks: how much of a budget a list of texts takes: the laws' own word.-/
namespace Go.Proofs.YtpckhpkbdanjoaaDoor
set_option linter.unusedVariables false
set_option linter.unusedSimpArgs false
open Go.RowKit

set_option maxRecDepth 100000 in
set_option maxHeartbeats 1600000 in
theorem szStringS_any (c : Nat → ByteArray) (n : Nat) (left : Int) (lo hi : Nat) (v : Value) (w : World) (hv : Sl w lo hi 1 v n (sC c)) (hhi : hi ≤ w.heap.size) (hl : 0 ≤ left) (hl' : left ≤ 1048576) (hn : n ≤ 9223372036854775807) (hsz : ∀ i, i < n → (c i).size ≤ maxLen) :
    Calls Tryd.prog 9 #[v, .int .i64 left] w fun e w' => e = .returned (.int .i64 (szPF left c n)) ∧ Below w.heap.size w w' := by
  obtain ⟨A, cap, rfl, hcap, hA⟩ := hv.open_
  clear hv
  by_cases h : left < n
  · have hd : decide (left - (n : Int) < 0) = true := by simp; omega
    go_enter Tryd.func9, Tryd.ntmps9
    go_wp2_with fail
    go_ret
    exact ⟨ret_int (by rw [szPF, if_pos h]), (by repeat (first | (with_reducible exact Below.refl _ _) | (with_reducible refine below_ov ?_ ?_) | (with_reducible refine Below.setCell ?_ ?_ _) | (with_reducible refine Below.alloc ?_ ?_ _) | (with_reducible refine Below.drew ?_) | (with_reducible refine below_drewN ?_ _) | (refine Below.trans ?_ (Below.mono ‹Below _ _ _› (by first | omega | (simp; done) | (simp; omega)))) | exact Below.refl _ _ | omega | (focus (simp; done)) | (focus (simp; omega))))⟩
  · have hd : decide (left - (n : Int) < 0) = false := by simp; omega
    have HM : Hid (szPF left c n = szP (left - n) (fun i => (c i).size) n) := by
      show szPF left c n = _
      rw [szPF, if_neg h]
    go_enter Tryd.func9, Tryd.ntmps9
    go_wp2_with fail
    go_loopw [1, 5] (fun x i wr => ∃ k : Nat, k ≤ n ∧ i = .int .i64 k ∧ x = .int .i64 (szP (left - n) (fun i => (c i).size) k) ∧ 0 ≤ szP (left - n) (fun i => (c i).size) k ∧ Below w.heap.size w wr) (fun _ i _ => n - (intOf i).toNat)
    case atStart => exact ⟨0, by omega, rfl, rfl, by simp only [szP]; omega, Below.refl _ _⟩
    case round =>
      obtain ⟨k, hk, rfl, rfl, h0, hb⟩ := hrel
      have hzr := hb.size
      have hle := szP_le (left := left - n) (a := fun i => (c i).size) (by omega) k
      by_cases hkn : k < n
      · obtain ⟨blk, off, rfl, h1, h2, h3⟩ := (hA.below hb (by omega)) (by omega)
        have c0 : wr.cell? ⟨blk, off + k, none⟩ = some (.string (c k)) := by have hh := h3 k 0 hkn (by omega); rw [Nat.mul_one, Nat.add_zero] at hh; exact hh
        clear h3 hA
        have z1 := hsz k hkn
        unfold maxLen at z1
        have hs : Hid (szP (left - n) (fun i => (c i).size) (k + 1) = sz1F (szP (left - n) (fun i => (c i).size) k) (c k).size) := by
          show szP _ _ (k + 1) = _
          rw [szP, if_neg (by omega)]
        have hs2 : Hid (szP (left - n) (fun i => (c i).size) (k + 1) = if szP (left - n) (fun i => (c i).size) k < (c k).size then -1 else szP (left - n) (fun i => (c i).size) k - (c k).size) := hs.out
        cases hd2 : decide (szP (left - n) (fun i => (c i).size) k - ((c k).size : Int) < 0) with
        | true =>
          have h5 := of_decide_eq_true hd2
          have HE : Hid (szPF left c n = -1) := by
            show szPF left c n = -1
            have h6 := hs2.out
            rw [if_pos (by omega)] at h6
            rw [HM.out]
            rcases Nat.lt_or_ge (k + 1) n with h7 | h7
            · exact szP_neg (by rw [h6]; omega) h7
            · obtain h7 : k + 1 = n := by omega
              have h9 := congrArg (szP (left - n) (fun i => (c i).size)) h7
              omega
          go_wp2_with fail
          go_ret
          exact ⟨ret_int HE.out.symm, (by repeat (first | (with_reducible exact Below.refl _ _) | (with_reducible refine below_ov ?_ ?_) | (with_reducible refine Below.setCell ?_ ?_ _) | (with_reducible refine Below.alloc ?_ ?_ _) | (with_reducible refine Below.drew ?_) | (with_reducible refine below_drewN ?_ _) | (refine Below.trans ?_ (Below.mono ‹Below _ _ _› (by first | omega | (simp; done) | (simp; omega)))) | exact Below.refl _ _ | omega | (focus (simp; done)) | (focus (simp; omega))))⟩
        | false =>
          have h5 := of_decide_eq_false hd2
          have h6 : szP (left - n) (fun i => (c i).size) (k + 1) = szP (left - n) (fun i => (c i).size) k - (c k).size := by
            have := hs2.out
            rwa [if_neg (by omega)] at this
          have H6 := hide h6
          clear h6
          go_wp2_with fail
          go_roundw
          case rel => exact ⟨k + 1, by omega, by go_num, by rw [H6.out], by rw [H6.out]; omega, (by repeat (first | (with_reducible exact Below.refl _ _) | (with_reducible refine below_ov ?_ ?_) | (with_reducible refine Below.setCell ?_ ?_ _) | (with_reducible refine Below.alloc ?_ ?_ _) | (with_reducible refine Below.drew ?_) | (with_reducible refine below_drewN ?_ _) | (refine Below.trans ?_ (Below.mono ‹Below _ _ _› (by first | omega | (simp; done) | (simp; omega)))) | exact Below.refl _ _ | omega | (focus (simp; done)) | (focus (simp; omega))))⟩
          case measure => simp [intOf]; omega
      · obtain rfl : k = n := by omega
        go_wp2_with fail
        go_ret
        exact ⟨ret_int HM.out.symm, hb⟩

end Go.Proofs.YtpckhpkbdanjoaaDoor
