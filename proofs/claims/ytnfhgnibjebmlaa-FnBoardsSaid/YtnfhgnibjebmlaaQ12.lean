/-
  Texts of this proof, one behind the other (part 12).
-/
import Derived.Test.YtnfhgnibjebmlaaQ11
import Derived.OpenShut
import Derived.Carry
import Derived.SizedLaws
import Derived.Lib.SmallJoins
import Derived.Deep.Slices
import Derived.Deep.Fields
import Derived.ChangeMaps5
/-
  The frame of a law's statement: where the call returns true and nothing below the old heap has turned, the row holds.-/
namespace Go.Proofs.Ytnfhgnibjebmlaa
set_option linter.unusedVariables false
set_option linter.unusedSimpArgs false
open Go.ChangeShapes Go.WideShapes Go.ChangeAt Go.RowKit Go.Joins Go.Deep

theorem Try.own : ownKnob Try.prog.godebug = none := by kernel_rfl
theorem Try.laidOut : laidOutB Try.prog = true := by kernel_rfl
theorem Try.rowed : mapsRowed Try.prog = true := by kernel_rfl
theorem Try.whole : (Try.prog.stopsHeard && Try.prog.mayEnter && (!Try.prog.liftsFinal) && (Try.prog.make == some Make.cut)) = true := by kernel_rfl
theorem Try.heard : Try.prog.stopsHeard = true := by have h := Try.whole; simp only [Bool.and_eq_true] at h; exact h.1.1.1
theorem Try.enters : Try.prog.mayEnter = true := by have h := Try.whole; simp only [Bool.and_eq_true] at h; exact h.1.1.2
theorem Try.lifts : Try.prog.liftsFinal = false := by have h := Try.whole; simp only [Bool.and_eq_true, Bool.not_eq_true'] at h; exact h.1.2
theorem Try.made : Try.prog.make = some Make.cut := by have h := Try.whole; simp only [Bool.and_eq_true, beq_iff_eq] at h; exact h.2

section
variable {H : Type} {enc : TypeId × Value → H} {P : Program}
theorem trodAll_below (hl : laidOutB P = true) {W W' : World} (hb : Below W.heap.size W W') : ∀ {ts : List TypeId} {vs : List Value} {ds : List (DataW H)} {ps : List MemPlace},
    ts.all (fun t => P.readableRec t && decide (t < P.types.size)) = true → DataW.TrodAll enc P W 0 (fun _ => true) true ts vs ds ps → (∀ x ∈ ps, x.block < W.heap.size) →
    DataW.TrodAll enc P W' 0 (fun b => decide (b < W.heap.size)) true ts vs ds ps
  | [], [], [], _, _, h, _ => h
  | t :: ts, v :: vs, d :: ds, ps, hr, h, hlt => by
    obtain ⟨p, q, h1, h2, rfl⟩ := h
    simp only [List.all_cons, Bool.and_eq_true] at hr
    exact ⟨p, q, Below.trod hl hr.1.1 (of_decide_eq_true hr.1.2) h1 hb (fun x hx => hlt x (List.mem_append.2 (.inl hx))), trodAll_below hl hb hr.2 h2 (fun x hx => hlt x (List.mem_append.2 (.inr hx))), rfl⟩
  | [], _ :: _, _, _, _, h, _ => by cases h
  | [], [], _ :: _, _, _, h, _ => by cases h
  | _ :: _, [], _, _, _, h, _ => by cases h
  | _ :: _, _ :: _, [], _, _, h, _ => by cases h

theorem law_post {f : Func} {s : ChangeSpec} {W W' : World} {args : Array Value} {ds : List (DataW H)} {before : List MemPlace} {T : TypeId}
    (hl : laidOutB P = true) (hvars : s.vars = []) (hr : f.params.toList.all (fun t => P.readableRec t && decide (t < P.types.size)) = true)
    (hT : f.resultTypes = #[T]) (hTb : P.underlying T = some .bool)
    (hW : DataW.Whole enc P f.params.toList s.vars false W args.toList ds [] before)
    (hs : s.fn H (ds ++ []) = { results := [.lit (.bool true)], args := ds }) (hb : Below W.heap.size W W') : s.post enc P f false true false false W args (.bool true) W' := by
  have hW' := hW
  obtain ⟨p, q, hA, hV, rfl, _, _⟩ := hW
  have hlt : ∀ x ∈ p ++ q, x.block < W.heap.size := fun x hx => by simpa using hW'.lt x hx
  rw [hvars] at hV
  have hq : q = [] := by simpa [DataW.TrodVars] using hV
  subst hq
  refine ⟨ds, [], p ++ [], [], p, [], hW', ?_, ?_, ?_, ?_, fun h => by cases h⟩
  · rw [hT, hs]
    exact trodAll_mk1 (shut_bool hTb true)
  · rw [hs]
    exact trodAll_below hl hb hr hA (fun x hx => hlt x (by simpa using hx))
  · rw [hs, hvars]
    rfl
  · exact hb.frame _
end

end Go.Proofs.Ytnfhgnibjebmlaa

/-
  Arguments that are slices, opened: the value, and the cells of its elements ('SlA').-/
namespace Go.Proofs.Ytnfhgnibjebmlaa
set_option linter.unusedVariables false
set_option linter.unusedSimpArgs false
open Go.ChangeShapes Go.WideShapes Go.ChangeAt Go.RowKit Go.Joins Go.Deep

section
variable {H : Type} {enc : TypeId × Value → H} {P : Program} {w : World} {base : Nat} {spare : Nat → Bool} {held : Bool}
theorem cell_lt {a : Addr} {v : Value} (h : w.cell? a = some v) : a.block < w.heap.size ∧ a.spot = none := by
  unfold World.cell? at h
  split at h
  · rename_i c e f hh
    refine ⟨?_, ?_⟩
    · rcases Nat.lt_or_ge a.block w.heap.size with h1 | h1
      · exact h1
      · rw [Array.getElem?_eq_none h1] at hh; cases hh
    · split at h
      · cases h
      · rename_i hs; simpa using hs
  · cases h
/-- A slice whose elements are of whatever type of sz cells, opened at every cell. -/
theorem open_cellsT {t e : TypeId} {d : DataW H} {ps : List MemPlace} {v : Value} {sz fuel : Nat} (ht : P.underlying t = some (.slice e)) (hC : P.cellsOf e = sz) (hsz : 0 < sz)
    (hf' : DataW.trod enc P w 0 spare held fuel t [v] = some (d, ps)) :
    ∃ (A : Option Addr) (n cap : Nat) (V : Nat → Nat → Value), v = .slice A n cap ∧ n ≤ cap ∧ cap ≤ maxLen ∧ SlA w 0 w.heap.size sz A n V ∧
      ∀ i, i < n → ∃ cs' k y, cs'.length = sz ∧ (∀ j, j < sz → cs'[j]? = some (V i j)) ∧ DataW.trod enc P w 0 spare held k e cs' = some y := by
  rcases open_slice ht hf' with ⟨hcs, _⟩ | ⟨a, n, cap, m, k, D, Pl, hcs, hb, hl, hm, hmm, _, hx⟩
  · simp only [List.cons.injEq, and_true] at hcs
    subst hcs
    exact ⟨none, 0, 0, fun _ _ => .bool false, rfl, Nat.le_refl _, Nat.zero_le _, fun h => absurd h (Nat.lt_irrefl _), fun i hi => absurd hi (Nat.not_lt_zero _)⟩
  · simp only [List.cons.injEq, and_true] at hcs
    subst hcs
    have hm' : n ≤ m := by rw [hmm]; split <;> omega
    have hx' : ∀ i, i < n → ∃ cs', w.cells? 0 (a.add (i * sz)) sz = some cs' ∧ DataW.trod enc P w 0 spare held k e cs' = some (D i, Pl i) := fun i hi => by
      have := hx i (by omega)
      rwa [hC] at this
    obtain ⟨C, hCs⟩ := choose_lt (α := List Value) hx'
    refine ⟨some a, n, cap, fun i j => (C i).getD j (.bool false), rfl, hl, hm, fun hn => ?_, fun i hi => ?_⟩
    · have at_ : ∀ i j, i < n → j < sz → w.cell? (a.add (i * sz + j)) = some ((C i).getD j (.bool false)) := fun i j hi hj => by
        obtain ⟨_, hlen, hat⟩ := World.cells?_some (hCs i hi).1
        have := hat j hj
        rw [Go.Deep.add_add] at this
        rw [this, List.getD, List.getElem?_eq_getElem (by omega)]
        rfl
      have h00 := cell_lt (at_ 0 0 hn hsz)
      have hspot : a.spot = none := by
        have h1 := at_ 0 0 hn hsz
        have : a.add (0 * sz + 0) = a := by simp [Addr.add]
        rw [this] at h1
        exact (cell_lt h1).2
      have hblk : a.block < w.heap.size := by
        have h1 := at_ 0 0 hn hsz
        have : a.add (0 * sz + 0) = a := by simp [Addr.add]
        rw [this] at h1
        exact (cell_lt h1).1
      obtain ⟨b, off, sp⟩ := a
      simp only at hspot hblk
      subst hspot
      refine ⟨b, off, rfl, Nat.zero_le _, hblk, fun i j hi hj => ?_⟩
      have := at_ i j hi hj
      unfold Addr.add at this
      split at this
      · rename_i h0
        rw [show off + i * sz + j = off by omega]
        exact this
      · rw [show off + i * sz + j = off + (i * sz + j) by omega]
        exact this
    · obtain ⟨h1, h2⟩ := hCs i hi
      obtain ⟨_, hlen, _⟩ := World.cells?_some h1
      exact ⟨C i, k, _, hlen, fun j hj => by simp [List.getD, List.getElem?_eq_getElem (show j < (C i).length by omega)], h2⟩
theorem open_cells {t e : TypeId} {d : DataW H} {ps : List MemPlace} {v : Value} {r : Reach} {b0 sz : Nat} (ht : P.underlying t = some (.slice e)) (hC : P.cellsOf e = sz) (hsz : 0 < sz)
    (hv : Value.okWide P w r b0 t v) (h : DataW.Trod enc P w 0 spare held t v d ps) :
    ∃ (A : Option Addr) (n cap : Nat) (V : Nat → Nat → Value), v = .slice A n cap ∧ n ≤ cap ∧ cap ≤ maxLen ∧ SlA w 0 w.heap.size sz A n V ∧
      ∀ i, i < n → ∃ cs' k y, cs'.length = sz ∧ (∀ j, j < sz → cs'[j]? = some (V i j)) ∧ DataW.trod enc P w 0 spare held k e cs' = some y := by
  obtain ⟨A, n, cap, rfl⟩ := okWide_slice ht hv
  obtain ⟨fuel, hf⟩ := h
  exact open_cellsT ht hC hsz (show DataW.trod enc P w 0 spare held fuel t [.slice A n cap] = some (d, ps) from hf)
theorem take_one {l : List Value} {j : Nat} {v : Value} (h : l[j]? = some v) : (l.drop j).take 1 = [v] := by
  obtain ⟨hj, rfl⟩ := List.getElem?_eq_some_iff.1 h
  rw [List.drop_eq_getElem_cons hj]
  rfl
/-- One field of an element that is a struct of one-cell fields. -/
theorem field_of {e : TypeId} {fs : Array Field} {k : Nat} {cs : List Value} {y : DataW H × List MemPlace} (he : P.underlying e = some (.struct fs)) (hone : oneCellFields P fs = true) (h : DataW.trod enc P w base spare held k e cs = some y)
    {j : Nat} {f : Field} {v : Value} (hj : fs[j]? = some f) (hv : cs[j]? = some v) : ∃ n z, DataW.trod enc P w base spare held n f.type [v] = some z := by
  obtain ⟨ys, n', hn', hy, hlen, hyl, hf⟩ := DataW.trod_struct he h
  obtain ⟨ho, hk⟩ := hone_of hone j f hj
  have h1 := hf j f hj
  rw [ho, hk, take_one hv] at h1
  have hjl : j < ys.length := by rw [hyl]; exact (Array.getElem?_eq_some_iff.1 hj).1
  exact ⟨n', ys[j], by rw [h1]; exact List.getElem?_eq_getElem hjl⟩
end
theorem int_cell {H : Type} {enc : TypeId × Value → H} {P : Program} {w : World} {base : Nat} {spare : Nat → Bool} {held : Bool} {t : TypeId} {n : Nat} {v : Value} {z : DataW H × List MemPlace} (ht : P.underlying t = some (.int .i64)) (h : DataW.trod enc P w base spare held n t [v] = some z) :
    v = .int .i64 (intOf v) ∧ (Lit.int .i64 (intOf v)).wf = true := by
  obtain ⟨x, h1, _, h3⟩ := DataW.trod_int ht h
  simp only [List.cons.injEq, and_true] at h1
  subst h1
  exact ⟨rfl, h3⟩
def strOf : Value → ByteArray | .string s => s | _ => ByteArray.empty
theorem str_cell {H : Type} {enc : TypeId × Value → H} {P : Program} {w : World} {base : Nat} {spare : Nat → Bool} {held : Bool} {t : TypeId} {n : Nat} {v : Value} {z : DataW H × List MemPlace} (ht : P.underlying t = some .string) (h : DataW.trod enc P w base spare held n t [v] = some z) :
    v = .string (strOf v) ∧ (strOf v).size ≤ maxLen := by
  obtain ⟨x, h1, _, h3⟩ := DataW.trod_string ht h
  simp only [List.cons.injEq, and_true] at h1
  subst h1
  exact ⟨rfl, h3⟩
theorem SlA.congr {w : World} {lo hi sz n : Nat} {A : Option Addr} {c c' : Nat → Nat → Value} (h : SlA w lo hi sz A n c) (hc : ∀ i j, i < n → j < sz → c i j = c' i j) : SlA w lo hi sz A n c' := fun hn => by
  obtain ⟨b, off, h1, h2, h3, h4⟩ := h hn
  exact ⟨b, off, h1, h2, h3, fun i j hi hj => (h4 i j hi hj).trans (by rw [hc i j hi hj])⟩

end Go.Proofs.Ytnfhgnibjebmlaa

/-
  An argument that is a list of bytes, opened.-/
namespace Go.Proofs.Ytnfhgnibjebmlaa
set_option linter.unusedVariables false
set_option linter.unusedSimpArgs false
open Go.ChangeShapes Go.WideShapes Go.ChangeAt Go.RowKit Go.Joins Go.Deep

theorem byte_cell {H : Type} {enc : TypeId × Value → H} {P : Program} {w : World} {base : Nat} {spare : Nat → Bool} {held : Bool} {t : TypeId} {n : Nat} {v : Value} {z : DataW H × List MemPlace} (ht : P.underlying t = some (.int .u8)) (h : DataW.trod enc P w base spare held n t [v] = some z) :
    v = .int .u8 (intOf v) ∧ 0 ≤ intOf v ∧ intOf v ≤ 255 := by
  obtain ⟨x, h1, _, h3⟩ := DataW.trod_int ht h
  simp only [List.cons.injEq, and_true] at h1
  subst h1
  refine ⟨rfl, ?_⟩
  have h4 : (Lit.int .u8 x).wf = true := h3
  simp [Lit.wf, IntKind.min, IntKind.max, IntKind.signed, IntKind.bits] at h4
  show 0 ≤ x ∧ x ≤ 255
  omega
theorem Try.cells5 : Try.prog.cellsOf 5 = 1 := by kernel_rfl
set_option maxRecDepth 100000 in
theorem openByteT {H : Type} {enc : TypeId × Value → H} {W : World} {spare : Nat → Bool} {held : Bool} {v : Value} {d : DataW H} {ps : List MemPlace} {fuel : Nat}
    (h : DataW.trod enc Try.prog W 0 spare held fuel 22 [v] = some (d, ps)) :
    ∃ (A : Option Addr) (n cap : Nat), v = .slice A n cap ∧ n ≤ cap ∧ cap ≤ maxLen ∧ Code W (.slice A n cap) := by
  obtain ⟨A, n, cap, V, rfl, h1, h2, h3, h4⟩ := open_cellsT Try.underlying22 Try.cells5 (by omega) h
  have key : ∀ i, i < n → V i 0 = .int .u8 (intOf (V i 0)) ∧ 0 ≤ intOf (V i 0) ∧ intOf (V i 0) ≤ 255 := fun i hi => by
    obtain ⟨cs', k, y, hl, hc, hy⟩ := h4 i hi
    have hcs : cs' = [V i 0] := by
      match cs', hl with
      | [x], _ => have := hc 0 (by omega); simp at this; rw [this]
    rw [hcs] at hy
    exact byte_cell Try.underlying5 hy
  refine ⟨A, n, cap, rfl, h1, h2, ⟨n, W.heap.size, fun i => intOf (V i 0), (h3.congr (c' := bC fun i => intOf (V i 0)) fun i j hi hj => ?_).shut h1, Nat.le_refl _, by unfold maxLen at h2; omega, fun i hi => (key i hi).2⟩⟩
  obtain rfl : j = 0 := by omega
  exact (key i hi).1
set_option maxRecDepth 100000 in
theorem openByte {H : Type} {enc : TypeId × Value → H} {W : World} {spare : Nat → Bool} {held : Bool} {v : Value} {d : DataW H} {ps : List MemPlace} {r : Reach} {b0 : Nat}
    (hv : Value.okWide Try.prog W r b0 22 v) (h : DataW.Trod enc Try.prog W 0 spare held 22 v d ps) :
    ∃ (A : Option Addr) (n cap : Nat), v = .slice A n cap ∧ n ≤ cap ∧ cap ≤ maxLen ∧ Code W (.slice A n cap) := by
  obtain ⟨A, n, cap, rfl⟩ := okWide_slice Try.underlying22 hv
  obtain ⟨fuel, hf⟩ := h
  exact openByteT (show DataW.trod enc Try.prog W 0 spare held fuel 22 [.slice A n cap] = some (d, ps) from hf)

end Go.Proofs.Ytnfhgnibjebmlaa

/-
  Walks for FnBoards: the law's own comparisons; words for its facts.-/
namespace Go.Proofs.Ytnfhgnibjebmlaa
set_option linter.unusedVariables false
set_option linter.unusedSimpArgs false
open Go.RowKit

theorem Code.bel {w w' : World} {v : Value} (h : Code w v) (hb : Below w.heap.size w w') : Code w' v := h.below hb (Nat.le_refl _)
/-- A slice that lies somewhere. -/
def SlW (w : World) (sz : Nat) (v : Value) (n : Nat) (c : Nat → Nat → Value) : Prop := Sl w 0 w.heap.size sz v n c
theorem SlW.bel {w w' : World} {sz n : Nat} {v : Value} {c : Nat → Nat → Value} (h : SlW w sz v n c) (hb : Below w.heap.size w w') : SlW w' sz v n c :=
  (Sl.below (B := w.heap.size) h hb (Nat.le_refl _)).mono (Nat.le_refl _) hb.size
theorem SlW.of {w : World} {lo hi sz n : Nat} {v : Value} {c : Nat → Nat → Value} (h : Sl w lo hi sz v n c) (hh : hi ≤ w.heap.size) : SlW w sz v n c := h.mono (Nat.zero_le _) hh
/-- What has turned since the call's start is above. -/
def BelW (w w' : World) : Prop := Below w.heap.size w w'
theorem BelW.bel {w w' w'' : World} (h : BelW w w') (hb : Below w'.heap.size w' w'') : BelW w w'' := Below.trans h (hb.mono (Below.size h))
section
variable {w : World} {A : Option Addr} {N c b o : Nat} {f g : Nat → Int} {F : Nat → ByteArray} {a d : Nat → Int}
theorem SlW.form {sz : Nat} {C : Nat → Nat → Value} (h : SlW w sz (.slice A N c) N C) (hN : 0 < N) : ∃ b o, A = some ⟨b, o, none⟩ := by
  obtain ⟨A', cap', e, _, hA⟩ := Sl.open_ h
  injection e with e1 e2 e3
  subst e1
  obtain ⟨b, o, hb, _⟩ := hA hN
  exact ⟨b, o, hb⟩
theorem SlW.at {sz : Nat} {C : Nat → Nat → Value} (h : SlW w sz (.slice (some ⟨b, o, none⟩) N c) N C) {k j : Nat} (hk : k < N) (hj : j < sz) : w.cell? ⟨b, o + k * sz + j, none⟩ = some (C k j) ∧ b < w.heap.size := by
  obtain ⟨A', cap', e, _, hA⟩ := Sl.open_ h
  injection e with e1 e2 e3
  subst e1
  obtain ⟨b', o', hb, _, h2, h3⟩ := hA (by omega)
  injection hb with hb
  injection hb with h4 h5
  subst h4 h5
  exact ⟨h3 k j hk hj, h2⟩
theorem SlW.i1 (h : SlW w 1 (.slice (some ⟨b, o, none⟩) N c) N (iC f)) {k : Nat} (hk : k < N) : w.cell? ⟨b, o + k, none⟩ = some (.int .i64 (f k)) ∧ b < w.heap.size :=
  ⟨by simpa [iC] using (h.at hk (j := 0) (by omega)).1, (h.at hk (j := 0) (by omega)).2⟩
theorem SlW.s1 (h : SlW w 1 (.slice (some ⟨b, o, none⟩) N c) N (sC F)) {k : Nat} (hk : k < N) : w.cell? ⟨b, o + k, none⟩ = some (.string (F k)) ∧ b < w.heap.size :=
  ⟨by simpa [sC] using (h.at hk (j := 0) (by omega)).1, (h.at hk (j := 0) (by omega)).2⟩
theorem SlW.s0 (h : SlW w 1 (.slice (some ⟨b, o, none⟩) N c) N (sC F)) (hk : 0 < N) : w.cell? ⟨b, o, none⟩ = some (.string (F 0)) ∧ b < w.heap.size :=
  ⟨by simpa [sC] using (h.at hk (j := 0) (by omega)).1, (h.at hk (j := 0) (by omega)).2⟩
end
/-- A board that lies somewhere. -/
def TlW (w : World) (v : Value) (n : Nat) (T : Nat → Tm) : Prop := SlT w 0 w.heap.size v n T
section
variable {w w' : World} {v : Value} {n : Nat} {T T' : Nat → Tm} {b o c : Nat} {A : Option Addr}
theorem TlW.of {lo hi : Nat} (h : SlT w lo hi v n T) (hh : hi ≤ w.heap.size) : TlW w v n T := h.mono (Nat.zero_le _) hh
theorem TlW.bel (h : TlW w v n T) (hb : Below w.heap.size w w') : TlW w' v n T := (SlT.below (B := w.heap.size) h hb (Nat.le_refl _)).mono (Nat.le_refl _) hb.size
theorem TlW.congr (h : TlW w v n T) (hT : ∀ i, i < n → T i = T' i) : TlW w v n T' := by
  obtain ⟨ck, h1, h2⟩ := h
  obtain ⟨A, cap, rfl, hc, hA⟩ := h1.open_
  refine ⟨ck, ⟨A, cap, rfl, hc, fun hn => ?_⟩, fun i hi => hT i hi ▸ h2 i hi⟩
  obtain ⟨b, o, e, g1, g2, g3⟩ := hA hn
  refine ⟨b, o, e, g1, g2, fun i j hi hj => ?_⟩
  rw [g3 i j hi hj]
  simp only [tC, hT i hi]
theorem TlW.form (h : TlW w (.slice A n c) n T) (hn : 0 < n) : ∃ b o, A = some ⟨b, o, none⟩ := by
  obtain ⟨b, o, ck, e, _⟩ := SlT.at_ h (Nat.le_refl _) hn
  exact ⟨b, o, e⟩
theorem TlW.at (h : TlW w (.slice (some ⟨b, o, none⟩) n c) n T) {k : Nat} (hk : k < n) : ∃ (Ak : Option Addr) (a : Nat), w.cell? ⟨b, o + k * 4, none⟩ = some (.string (T k).s) ∧ w.cell? ⟨b, o + k * 4 + 1, none⟩ = some (.int .i64 (T k).v) ∧ w.cell? ⟨b, o + k * 4 + 2, none⟩ = some (.int .i64 (T k).y) ∧ w.cell? ⟨b, o + k * 4 + 3, none⟩ = some (.slice Ak (T k).n a) ∧ b < w.heap.size ∧ SlW w 2 (.slice Ak (T k).n a) (T k).n (iiC (T k).m (T k).b) := by
  obtain ⟨b', o', ck, e, g1, g2, g3⟩ := SlT.at_ h (Nat.le_refl _) (by omega)
  injection e with e
  injection e with e1 e2
  subst e1 e2
  obtain ⟨tl, q0, q1, q2, q3, qs, _⟩ := g3 k hk
  obtain ⟨Ak, a, ek, _, _⟩ := qs.open_
  rw [ek] at q3 qs
  exact ⟨Ak, a, q0, q1, q2, q3, tl, qs⟩
end
theorem BxT.bel {w w' : World} {b : Nat} {s : ByteArray} {x y : Int} {u : Value} (h : BxT w b s x y u) (hb : Below w.heap.size w w') : BxT w' b s x y u := h.below hb
set_option maxRecDepth 100000 in
set_option maxHeartbeats 1600000 in
theorem pSameTexts_same (F : Nat → ByteArray) (N lo hi lo' hi' : Nat) (v u : Value) (w : World) (hv : Sl w lo hi 1 v N (sC F)) (hu : Sl w lo' hi' 1 u N (sC F)) (hhi : hi ≤ w.heap.size) (hhi' : hi' ≤ w.heap.size) (hN : N ≤ 4611686018427387904) :
    Calls Try.prog 16 #[v, u] w fun e w' => e = .returned (.bool true) ∧ Below w.heap.size w w' := by
  obtain ⟨A, cap, rfl, hcap, hA⟩ := hv.open_
  obtain ⟨A', cap', rfl, hcap', hA'⟩ := hu.open_
  clear hv hu
  go_enter Try.func16, Try.ntmps16
  go_wp2_with fail
  go_loopw [13] (fun i wr => ∃ k : Nat, k ≤ N ∧ i = .int .i64 k ∧ Below w.heap.size w wr) (fun i _ => N - (intOf i).toNat)
  case atStart => exact ⟨0, by omega, rfl, Below.refl _ _⟩
  case round =>
    obtain ⟨k, hk, rfl, hb⟩ := hrel
    have hzr := hb.size
    by_cases hkn : k < N
    · obtain ⟨blk, off, rfl, h1, h2, h3⟩ := (hA.below hb (by omega)) (by omega)
      obtain ⟨blk', off', rfl, h1', h2', h3'⟩ := (hA'.below hb (by omega)) (by omega)
      have c0 : wr.cell? ⟨blk, off + k , none⟩ = some (.string (F k)) := by simpa [sC] using h3 k 0 hkn (by omega)
      have c0' : wr.cell? ⟨blk', off' + k , none⟩ = some (.string (F k)) := by simpa [sC] using h3' k 0 hkn (by omega)
      clear h3 h3' hA hA'
      have l3 : blk < wr.heap.size := by omega
      have l4 : blk' < wr.heap.size := by omega
      go_wp2_with fail
      (refine wp_region_below_lit (by kernel_rfl) (by kernel_rfl) ?_; (repeat (first | go_big_quiet_step (fail) | quiet_step (fail))); refine wpQuiet_nil ?_; intro w2 hb2; have hz2 := hb2.size; (try (simp at hz2)); obtain ⟨hcw2, hfw2⟩ := bcell hb2; (try (have hy2 : w.heap.size < w2.heap.size := by omega)); (try (have hyy2 : w.heap.size + 1 < w2.heap.size := by omega)))
      go_wp2
      go_roundw
      case rel => exact ⟨k + 1, by omega, by go_num, (by repeat (first | (with_reducible exact Below.refl _ _) | (with_reducible refine below_ov ?_ ?_) | (with_reducible refine Below.setCell ?_ ?_ _) | (with_reducible refine Below.alloc ?_ ?_ _) | (with_reducible refine Below.drew ?_) | (with_reducible refine below_drewN ?_ _) | (refine Below.trans ?_ (Below.mono ‹Below _ _ _› (by first | omega | (simp; done) | (simp; omega)))) | exact Below.refl _ _ | omega | (focus (simp; done)) | (focus (simp; omega))))⟩
      case measure => simp [intOf]; omega
    · obtain rfl : k = N := by omega
      go_wp2_with fail
      go_ret
      exact ⟨rfl, hb⟩
set_option maxRecDepth 100000 in
set_option maxHeartbeats 1600000 in
theorem pHas_any (F : Nat → ByteArray) (s : ByteArray) (N lo hi : Nat) (v : Value) (w : World) (hv : Sl w lo hi 1 v N (sC F)) (hhi : hi ≤ w.heap.size) (hN : N ≤ 1048576) :
    Calls Try.prog 19 #[v, .string s] w fun e w' => e = .returned (.bool (hasT F s N)) ∧ Below w.heap.size w w' := by
  obtain ⟨A, cap, rfl, hcap, hA⟩ := hv.open_
  clear hv
  go_enter Try.func19, Try.ntmps19
  go_wp2_with fail
  go_loopw [9] (fun i wr => ∃ k : Nat, k ≤ N ∧ i = .int .i64 k ∧ Hid (∀ j, j < k → decide (F j = s) = false) ∧ Below w.heap.size w wr) (fun i _ => N - (intOf i).toNat)
  case atStart => exact ⟨0, by omega, rfl, (fun j hj => absurd hj (Nat.not_lt_zero _)), Below.refl _ _⟩
  case round =>
    obtain ⟨k, hk, rfl, hno, hb⟩ := hrel
    have hzr := hb.size
    by_cases hkn : k < N
    · obtain ⟨blk, off, rfl, h1, h2, h3⟩ := (hA.below hb (by omega)) (by omega)
      have c0 : wr.cell? ⟨blk, off + k , none⟩ = some (.string (F k)) := by simpa [sC] using h3 k 0 hkn (by omega)
      have l3 : blk < wr.heap.size := by omega
      clear h3 hA
      cases hd : decide (F k = s) with
      | true =>
        have hX : Hid (hasT F s N = true) := by show _ = _; rw [hasT, fst_iff]; exact ⟨k, hkn, hd⟩
        have hq : ((F k).toList == s.toList) = true := by rw [str_beq, hd]
        clear hd
        go_wp2_with fail
        go_ret
        exact ⟨ret_bool hX.out.symm, hb⟩
      | false =>
        have hno2 : Hid (∀ j, j < k + 1 → decide (F j = s) = false) := fun j hj => by
          rcases Nat.lt_or_ge j k with h | h
          · exact hno.out j h
          · obtain rfl : j = k := by omega
            exact hd
        have hq : ((F k).toList == s.toList) = false := by rw [str_beq, hd]
        clear hd
        go_wp2_with fail
        go_roundw
        case rel => exact ⟨k + 1, by omega, by go_num, hno2, hb⟩
        case measure => simp [intOf]; omega
    · have hX : Hid (hasT F s N = false) := by
        show _ = _
        rw [Bool.eq_false_iff, ne_eq, hasT, fst_iff]
        rintro ⟨j, hj, e⟩
        rw [hno.out j (by omega)] at e
        cases e
      go_wp2_with fail
      go_ret
      exact ⟨ret_bool hX.out.symm, hb⟩

set_option maxRecDepth 100000 in
set_option maxHeartbeats 1600000 in
theorem pSameChecks_same (f g : Nat → Int) (N lo hi lo' hi' : Nat) (v u : Value) (w : World) (hv : Sl w lo hi 2 v N (iiC f g)) (hu : Sl w lo' hi' 2 u N (iiC f g)) (hhi : hi ≤ w.heap.size) (hhi' : hi' ≤ w.heap.size) (hN : N ≤ 4611686018427387904) :
    Calls Try.prog 73 #[v, u] w fun e w' => e = .returned (.bool true) ∧ Below w.heap.size w w' := by
  obtain ⟨A, cap, rfl, hcap, hA⟩ := hv.open_
  obtain ⟨A', cap', rfl, hcap', hA'⟩ := hu.open_
  clear hv hu
  go_enter Try.func73, Try.ntmps73
  go_wp2_with fail
  go_loopw [13] (fun i wr => ∃ k : Nat, k ≤ N ∧ i = .int .i64 k ∧ Below w.heap.size w wr) (fun i _ => N - (intOf i).toNat)
  case atStart => exact ⟨0, by omega, rfl, Below.refl _ _⟩
  case round =>
    obtain ⟨k, hk, rfl, hb⟩ := hrel
    have hzr := hb.size
    by_cases hkn : k < N
    · obtain ⟨blk, off, rfl, h1, h2, h3⟩ := (hA.below hb (by omega)) (by omega)
      obtain ⟨blk', off', rfl, h1', h2', h3'⟩ := (hA'.below hb (by omega)) (by omega)
      have c0 : wr.cell? ⟨blk, off + k * 2 , none⟩ = some (.int .i64 (f k)) := by simpa [iiC] using h3 k 0 hkn (by omega)
      have c1 : wr.cell? ⟨blk, off + k * 2 + 1, none⟩ = some (.int .i64 (g k)) := by simpa [iiC] using h3 k 1 hkn (by omega)
      have c0' : wr.cell? ⟨blk', off' + k * 2 , none⟩ = some (.int .i64 (f k)) := by simpa [iiC] using h3' k 0 hkn (by omega)
      have c1' : wr.cell? ⟨blk', off' + k * 2 + 1, none⟩ = some (.int .i64 (g k)) := by simpa [iiC] using h3' k 1 hkn (by omega)
      clear h3 h3' hA hA'
      have l3 : blk < wr.heap.size := by omega
      have l4 : blk' < wr.heap.size := by omega
      go_wp2_with fail
      (refine wp_region_below_lit (by kernel_rfl) (by kernel_rfl) ?_; (repeat (first | go_big_quiet_step (fail) | quiet_step (fail))); refine wpQuiet_nil ?_; intro w2 hb2; have hz2 := hb2.size; (try (simp at hz2)); obtain ⟨hcw2, hfw2⟩ := bcell hb2; (try (have hy2 : w.heap.size < w2.heap.size := by omega)); (try (have hyy2 : w.heap.size + 1 < w2.heap.size := by omega)))
      go_wp2
      go_roundw
      case rel => exact ⟨k + 1, by omega, by go_num, (by repeat (first | (with_reducible exact Below.refl _ _) | (with_reducible refine below_ov ?_ ?_) | (with_reducible refine Below.setCell ?_ ?_ _) | (with_reducible refine Below.alloc ?_ ?_ _) | (with_reducible refine Below.drew ?_) | (with_reducible refine below_drewN ?_ _) | (refine Below.trans ?_ (Below.mono ‹Below _ _ _› (by first | omega | (simp; done) | (simp; omega)))) | exact Below.refl _ _ | omega | (focus (simp; done)) | (focus (simp; omega))))⟩
      case measure => simp [intOf]; omega
    · obtain rfl : k = N := by omega
      go_wp2_with fail
      go_ret
      exact ⟨rfl, hb⟩
set_option maxRecDepth 100000 in
set_option maxHeartbeats 1600000 in
theorem pSameTeam_same (X : Tm) (lo hi lo' hi' : Nat) (v u : Value) (w : World) (hv : Sl w lo hi 2 v X.n (iiC X.m X.b)) (hu : Sl w lo' hi' 2 u X.n (iiC X.m X.b)) (hhi : hi ≤ w.heap.size) (hhi' : hi' ≤ w.heap.size) (hN : X.n ≤ 1048576) :
    Calls Try.prog 45 #[.agg #[.string X.s, .int .i64 X.v, .int .i64 X.y, v], .agg #[.string X.s, .int .i64 X.v, .int .i64 X.y, u]] w fun e w' => e = .returned (.bool true) ∧ Below w.heap.size w w' := by
  obtain ⟨A, cap, rfl, _, _⟩ := id hv.open_
  obtain ⟨A', cap', rfl, _, _⟩ := id hu.open_
  have HV := hide hv
  have HU := hide hu
  clear hv hu
  go_enter Try.func45, Try.ntmps45
  go_wp2_with fail
  refine (pSameChecks_same X.m X.b X.n lo hi lo' hi' _ _ _ (HV.out.below (B := w.heap.size) (by repeat (first | (with_reducible exact Below.refl _ _) | (with_reducible refine below_ov ?_ ?_) | (with_reducible refine Below.setCell ?_ ?_ _) | (with_reducible refine Below.alloc ?_ ?_ _) | (with_reducible refine Below.drew ?_) | (with_reducible refine below_drewN ?_ _) | (refine Below.trans ?_ (Below.mono ‹Below _ _ _› (by first | omega | (simp; done) | (simp; omega)))) | exact Below.refl _ _ | omega | (focus (simp; done)) | (focus (simp; omega)))) hhi) (HU.out.below (B := w.heap.size) (by repeat (first | (with_reducible exact Below.refl _ _) | (with_reducible refine below_ov ?_ ?_) | (with_reducible refine Below.setCell ?_ ?_ _) | (with_reducible refine Below.alloc ?_ ?_ _) | (with_reducible refine Below.drew ?_) | (with_reducible refine below_drewN ?_ _) | (refine Below.trans ?_ (Below.mono ‹Below _ _ _› (by first | omega | (simp; done) | (simp; omega)))) | exact Below.refl _ _ | omega | (focus (simp; done)) | (focus (simp; omega)))) hhi') (by first | omega | (simp; done) | (simp; omega)) (by first | omega | (simp; done) | (simp; omega)) (by omega)).mono ?_
  rintro e w1 ⟨rfl, hb1⟩
  go_wp2_with fail
  go_ret
  exact ⟨rfl, (by repeat (first | (with_reducible exact Below.refl _ _) | (with_reducible refine below_ov ?_ ?_) | (with_reducible refine Below.setCell ?_ ?_ _) | (with_reducible refine Below.alloc ?_ ?_ _) | (with_reducible refine Below.drew ?_) | (with_reducible refine below_drewN ?_ _) | (refine Below.trans ?_ (Below.mono ‹Below _ _ _› (by first | omega | (simp; done) | (simp; omega)))) | exact Below.refl _ _ | omega | (focus (simp; done)) | (focus (simp; omega))))⟩
set_option maxRecDepth 100000 in
set_option maxHeartbeats 1600000 in
theorem pSameBoard_same (T : Nat → Tm) (n lo hi lo' hi' : Nat) (v u : Value) (w : World) (hv : SlT w lo hi v n T) (hu : SlT w lo' hi' u n T) (hhi : hi ≤ w.heap.size) (hhi' : hi' ≤ w.heap.size) (hf : tfits T n) :
    Calls Try.prog 8 #[v, u] w fun e w' => e = .returned (.bool true) ∧ Below w.heap.size w w' := by
  obtain ⟨A, cap, rfl, hcap⟩ := hv.open_
  obtain ⟨A', cap', rfl, hcap'⟩ := hu.open_
  obtain ⟨hn, hfit⟩ := hf
  go_enter Try.func8, Try.ntmps8
  go_wp2_with fail
  go_loopw [13] (fun i wr => ∃ k : Nat, k ≤ n ∧ i = .int .i64 k ∧ Below w.heap.size w wr) (fun i _ => n - (intOf i).toNat)
  case atStart => exact ⟨0, by omega, rfl, Below.refl _ _⟩
  case round =>
    obtain ⟨k, hk, rfl, hb⟩ := hrel
    have hzr := hb.size
    by_cases hkn : k < n
    · obtain ⟨blk, off, dk, rfl, h1, h2, h3⟩ := (hv.below hb hhi).at_ (by omega) (by omega)
      obtain ⟨blk', off', dk', rfl, h1', h2', h3'⟩ := (hu.below hb hhi').at_ (by omega) (by omega)
      obtain ⟨t1, t2, t3, t4, t5, t6, t7⟩ := h3 k hkn
      obtain ⟨u1, u2, u3, u4, u5, u6, u7⟩ := h3' k hkn
      clear h3 h3'
      have HC := hide (hfit k hkn)
      obtain ⟨Ak, ak, ek, _, _⟩ := t6.open_
      obtain ⟨Au, au, eu, _, _⟩ := u6.open_
      rw [ek] at t5 t6
      rw [eu] at u5 u6
      clear ek eu
      have T6 := hide t6
      have U6 := hide u6
      clear t6 u6
      have g1 : blk < wr.heap.size := by omega
      have g2 : blk' < wr.heap.size := by omega
      obtain ⟨X, hX⟩ : ∃ X, T k = X := ⟨_, rfl⟩
      rw [hX] at t2 t3 t4 t5 u2 u3 u4 u5 T6 U6 HC
      clear hX
      go_wp2_with fail
      (refine wp_region_below_lit (by kernel_rfl) (by kernel_rfl) ?_; (repeat (first | go_big_quiet_step ((go_at_call 45; exact quiet_ov (pSameTeam_same X lo hi lo' hi' _ _ _ (T6.out.below (B := wr.heap.size) (by repeat (first | (with_reducible exact Below.refl _ _) | (with_reducible refine below_ov ?_ ?_) | (with_reducible refine Below.setCell ?_ ?_ _) | (with_reducible refine Below.alloc ?_ ?_ _) | (with_reducible refine Below.drew ?_) | (with_reducible refine below_drewN ?_ _) | (refine Below.trans ?_ (Below.mono ‹Below _ _ _› (by first | omega | (simp; done) | (simp; omega)))) | exact Below.refl _ _ | omega | (focus (simp; done)) | (focus (simp; omega)))) (by omega)) (U6.out.below (B := wr.heap.size) (by repeat (first | (with_reducible exact Below.refl _ _) | (with_reducible refine below_ov ?_ ?_) | (with_reducible refine Below.setCell ?_ ?_ _) | (with_reducible refine Below.alloc ?_ ?_ _) | (with_reducible refine Below.drew ?_) | (with_reducible refine below_drewN ?_ _) | (refine Below.trans ?_ (Below.mono ‹Below _ _ _› (by first | omega | (simp; done) | (simp; omega)))) | exact Below.refl _ _ | omega | (focus (simp; done)) | (focus (simp; omega)))) (by omega)) (by simp [ov]; omega) (by simp [ov]; omega) HC.out.2))) | quiet_step ((go_at_call 45; exact quiet_ov (pSameTeam_same X lo hi lo' hi' _ _ _ (T6.out.below (B := wr.heap.size) (by repeat (first | (with_reducible exact Below.refl _ _) | (with_reducible refine below_ov ?_ ?_) | (with_reducible refine Below.setCell ?_ ?_ _) | (with_reducible refine Below.alloc ?_ ?_ _) | (with_reducible refine Below.drew ?_) | (with_reducible refine below_drewN ?_ _) | (refine Below.trans ?_ (Below.mono ‹Below _ _ _› (by first | omega | (simp; done) | (simp; omega)))) | exact Below.refl _ _ | omega | (focus (simp; done)) | (focus (simp; omega)))) (by omega)) (U6.out.below (B := wr.heap.size) (by repeat (first | (with_reducible exact Below.refl _ _) | (with_reducible refine below_ov ?_ ?_) | (with_reducible refine Below.setCell ?_ ?_ _) | (with_reducible refine Below.alloc ?_ ?_ _) | (with_reducible refine Below.drew ?_) | (with_reducible refine below_drewN ?_ _) | (refine Below.trans ?_ (Below.mono ‹Below _ _ _› (by first | omega | (simp; done) | (simp; omega)))) | exact Below.refl _ _ | omega | (focus (simp; done)) | (focus (simp; omega)))) (by omega)) (by simp [ov]; omega) (by simp [ov]; omega) HC.out.2))))); refine wpQuiet_nil ?_; intro w1 hb1; have hz1 := hb1.size; (try (simp at hz1)); obtain ⟨hcw1, hfw1⟩ := bcell hb1; (try (have hy1 : w.heap.size < w1.heap.size := by omega)); (try (have hyy1 : w.heap.size + 1 < w1.heap.size := by omega)))
      go_wp2
      go_roundw
      case rel => exact ⟨k + 1, by omega, by go_num, (by repeat (first | (with_reducible exact Below.refl _ _) | (with_reducible refine below_ov ?_ ?_) | (with_reducible refine Below.setCell ?_ ?_ _) | (with_reducible refine Below.alloc ?_ ?_ _) | (with_reducible refine Below.drew ?_) | (with_reducible refine below_drewN ?_ _) | (refine Below.trans ?_ (Below.mono ‹Below _ _ _› (by first | omega | (simp; done) | (simp; omega)))) | exact Below.refl _ _ | omega | (focus (simp; done)) | (focus (simp; omega))))⟩
      case measure => simp [intOf]; omega
    · obtain rfl : k = n := by omega
      go_wp2_with fail
      go_ret
      exact ⟨rfl, hb⟩

end Go.Proofs.Ytnfhgnibjebmlaa

/-
  Plain words for FnBoards, second part: sizes of the results; the law on the first one to turn. No program in sight.-/
namespace Go.Proofs.Ytnfhgnibjebmlaa
set_option linter.unusedVariables false
set_option linter.unusedSimpArgs false

section
variable {T : Nat → Tm} {n : Nat} {X : Tm} {s : ByteArray} {m b : Int}
theorem small_fits (hn : n ≤ 7) (h : ∀ i, i < n → (T i).s.size ≤ 7 ∧ (T i).n ≤ 21) : tfits T n :=
  ⟨by omega, fun i hi => ⟨by have := (h i hi).1; unfold maxLen; omega, by have := (h i hi).2; omega⟩⟩
theorem et_fits (hf : tfits T n) (hx : X.fits) : tfits (etT T n X) (etN T n X) := by
  refine ⟨etN_le hf, fun i hi => ?_⟩
  have hk := fdK_le T n X.s
  unfold etN at hi
  split at hi
  · unfold etT insT
    split
    · exact hf.2 i (by omega)
    · split
      · exact hx
      · exact hf.2 (i - 1) (by omega)
  · omega
theorem lv_fits (hf : tfits T n) : tfits (lvT T n s) (lvN T n s) := by
  have h1 := lvN_le (s := s) hf
  have h2 := hf.1
  refine ⟨by omega, fun i hi => ?_⟩
  unfold lvN at hi
  split at hi
  · exact hf.2 _ (by unfold skp; split <;> omega)
  · omega
theorem ad_fits (hn : n ≤ 7) (h : ∀ i, i < n → (T i).s.size ≤ 7 ∧ (T i).n ≤ 21) : tfits (adT T n s m b) (adN T n s m b) := by
  have h1 := adN_le (s := s) (m := m) (b := b) (small_fits hn h)
  refine ⟨by omega, fun i hi => ?_⟩
  have h2 := h i (by omega)
  unfold adT adW
  split
  · exact ⟨by show (T i).s.size ≤ _; unfold maxLen; omega, by show (T i).n + 1 ≤ _; omega⟩
  · exact ⟨by unfold maxLen; omega, by omega⟩
theorem fr_law (h : frB T n = true) {k : Nat} (hk : k < n) : ((T k).s = frS T n → turnOk (T k) = true → turnNN (T k) = frN T n) ∧ (noTurn T n = false → turnOk (T k) = true → frN T n ≤ turnNN (T k)) ∧ (noTurn T n = true → (T k).s = frS T n → turnOk (T k) = false) := by
  obtain ⟨h1, h2, b, hb, hS, hA, hB⟩ := fr_facts h
  have hkb : (T k).s = frS T n → k = b := fun e => bd_inj h1 hk hb (e.trans hS)
  cases ho : turnOk (T b) with
  | true =>
    obtain ⟨a1, a2, a3⟩ := hA ho
    exact ⟨fun e _ => (hkb e) ▸ a1, fun _ _ => a3 k hk, fun e => absurd (a2.symm.trans e) (by simp)⟩
  | false =>
    have a := hB ho
    exact ⟨fun e h => absurd ((hkb e ▸ ho).symm.trans h) (by simp), fun e => absurd (a.symm.trans e) (by simp), fun _ e => (hkb e) ▸ ho⟩
end

end Go.Proofs.Ytnfhgnibjebmlaa

/-
  Walks: a team enters: the program.-/
namespace Go.Proofs.Ytnfhgnibjebmlaa
set_option linter.unusedVariables false
set_option linter.unusedSimpArgs false
open Go.RowKit

theorem insC_one {c : Nat → Nat → Value} {n : Nat} (hc : ∀ i j, i < n → j < 4 → (c i j).oneCell' = true) : True := trivial
theorem xC_one {X : Tm} {A : Option Addr} {n c : Nat} : ∀ j, j < 4 → (xC X (.slice A n c) j).oneCell' = true := fun j hj => by
  match j, hj with
  | 0, _ => rfl
  | 1, _ => rfl
  | 2, _ => rfl
  | 3, _ => rfl
theorem tC_one {T : Nat → Tm} {ck : Nat → Value} {n : Nat} (hc : ∀ i, i < n → (ck i).oneCell' = true) : ∀ i j, i < n → j < 4 → (tC T ck i j).oneCell' = true := fun i j hi hj => by
  match j, hj with
  | 0, _ => rfl
  | 1, _ => rfl
  | 2, _ => rfl
  | 3, _ => exact hc i hi
/-- The board behind the insertion. -/
theorem OwnX.entered {W w' : World} {base g' k n b' : Nat} {X : Tm} {u v' : Value} {β : Nat → Nat} {ck : Nat → Value} {T : Nat → Tm} (hs : Subs W base β ck T n) (hk : k ≤ n) (hp : ∀ i, i < n → 0 < (T i).n) (hpX : 0 < X.n)
    (ho : OwnL w' g' (g' + 1) 27 4 v' (n + 1) ((n + 1) * 4) (fun o => insC k (tC T ck) (xC X u) (o / 4) (o % 4)))
    (hu : OwnL w' b' (b' + 1) 56 2 u X.n (X.n * 2) (fun o => iiC X.m X.b (o / 2) (o % 2)))
    (hb : ∀ i, i < n → β i ≠ b') (hkeep : ∀ i, i < n → w'.heap[β i]? = W.heap[β i]?) :
    OwnX w' g' (fun i => if i < k then β i else if i = k then b' else β (i - 1)) (fun i => if i < k then ck i else if i = k then u else ck (i - 1)) v' (n + 1) (insT T k X) := by
  have hsub : ∀ i, i < n + 1 → OwnL w' (if i < k then β i else if i = k then b' else β (i - 1)) ((if i < k then β i else if i = k then b' else β (i - 1)) + 1) 56 2 (if i < k then ck i else if i = k then u else ck (i - 1)) (insT T k X i).n ((insT T k X i).n * 2) (fun o => iiC (insT T k X i).m (insT T k X i).b (o / 2) (o % 2)) := fun i hi => by
    unfold insT
    rcases Nat.lt_trichotomy i k with h | h | h
    · simp only [h, if_true]
      exact (hs.1 i (by omega)).1.keep1 (hkeep i (by omega))
    · subst h
      simp only [Nat.lt_irrefl, if_true, if_false]
      exact hu
    · have h1 : ¬ i < k := by omega
      have h2 : ¬ i = k := by omega
      simp only [h1, h2, if_false]
      exact (hs.1 (i - 1) (by omega)).1.keep1 (hkeep _ (by omega))
  have hpos : ∀ i, i < n + 1 → 0 < (insT T k X i).n := fun i hi => by
    unfold insT
    split
    · exact hp i (by omega)
    · split
      · exact hpX
      · exact hp _ (by omega)
  have hown : OwnL w' g' (g' + 1) 27 4 v' (n + 1) ((n + 1) * 4) (fun o => tC (insT T k X) (fun i => if i < k then ck i else if i = k then u else ck (i - 1)) (o / 4) (o % 4)) := ho.congr fun o _ => ins_tC T ck k X u _ _
  refine ⟨hown, hsub, fun i hi => OwnL.apart (hsub i hi) hown (hpos i hi) (by omega) (by decide), fun i j hi hj hij => ?_⟩
  show (if i < k then β i else if i = k then b' else β (i - 1)) ≠ (if j < k then β j else if j = k then b' else β (j - 1))
  rcases Nat.lt_trichotomy i k with h | h | h <;> rcases Nat.lt_trichotomy j k with h' | h' | h'
  · rw [if_pos h, if_pos h']; exact hs.2 i j (by omega) (by omega) hij
  · rw [if_pos h, if_neg (by omega), if_pos h']; exact hb i (by omega)
  · rw [if_pos h, if_neg (by omega), if_neg (by omega)]; exact hs.2 _ _ (by omega) (by omega) (by omega)
  · rw [if_neg (by omega), if_pos h, if_pos h']; exact (hb j (by omega)).symm
  · omega
  · rw [if_neg (by omega), if_pos h, if_neg (by omega), if_neg (by omega)]; exact (hb _ (by omega)).symm
  · rw [if_neg (by omega), if_neg (by omega), if_pos h']; exact hs.2 _ _ (by omega) (by omega) (by omega)
  · rw [if_neg (by omega), if_neg (by omega), if_neg (by omega), if_pos h']; exact hb _ (by omega)
  · rw [if_neg (by omega), if_neg (by omega), if_neg (by omega), if_neg (by omega)]; exact hs.2 _ _ (by omega) (by omega) (by omega)
set_option maxRecDepth 100000 in
set_option maxHeartbeats 3200000 in
theorem EnterTeam_impl (T : Nat → Tm) (n : Nat) (X : Tm) (lo hi lo' hi' : Nat) (v vx : Value) (w : World) (hv : SlT w lo hi v n T) (hhi : hi ≤ w.heap.size) (hf : tfits T n) (hx : Sl w lo' hi' 2 vx X.n (iiC X.m X.b)) (hhi' : hi' ≤ w.heap.size) (hfx : X.fits) :
    Calls Try.prog 6 #[v, .agg #[.string X.s, .int .i64 X.v, .int .i64 X.y, vx]] w (BrdRes (etT T n X) (etN T n X) (etOk T n X) w) := by
  obtain ⟨A, cap, rfl, hcap⟩ := hv.open_
  obtain ⟨B, capx, rfl, hcapx, hBx⟩ := hx.open_
  have hn : n ≤ 1048576 := hf.1
  cases hB : bdB T n with
  | false =>
    have HF : Hid (etOk T n X = false) := by show _ = _; simp [etOk, hB]
    have HN : Hid (etN T n X = 0) := by show _ = _; rw [etN, HF.out]; rfl
    go_enter Try.func6, Try.ntmps6
    go_wp2_with fail
    refine (isBoard_any T n lo hi _ _ (hv.below (B := w.heap.size) (by repeat (first | (with_reducible exact Below.refl _ _) | (with_reducible refine below_ov ?_ ?_) | (with_reducible refine Below.setCell ?_ ?_ _) | (with_reducible refine Below.alloc ?_ ?_ _) | (with_reducible refine Below.drew ?_) | (with_reducible refine below_drewN ?_ _) | (refine Below.trans ?_ (Below.mono ‹Below _ _ _› (by first | omega | (simp; done) | (simp; omega)))) | exact Below.refl _ _ | omega | (focus (simp; done)) | (focus (simp; omega)))) hhi) (by first | omega | (simp; done) | (simp; omega)) hf).mono ?_
    rintro e w2 ⟨rfl, hb2⟩
    have hz2 := hb2.size
    (try (simp at hz2))
    rw [hB]
    go_wp2_with fail
    go_ret2
    rw [HF.out]
    exact brd_nil HN.out (by repeat (first | (with_reducible exact Below.refl _ _) | (with_reducible refine below_ov ?_ ?_) | (with_reducible refine Below.setCell ?_ ?_ _) | (with_reducible refine Below.alloc ?_ ?_ _) | (with_reducible refine Below.drew ?_) | (with_reducible refine below_drewN ?_ _) | (refine Below.trans ?_ (Below.mono ‹Below _ _ _› (by first | omega | (simp; done) | (simp; omega)))) | exact Below.refl _ _ | omega | (focus (simp; done)) | (focus (simp; omega))))
  | true =>
    have HB := hide hB
    have hn6 := (bd_facts HB.out).1
    cases hC : tmB X with
    | false =>
      have HF : Hid (etOk T n X = false) := by show _ = _; simp [etOk, hC]
      have HN : Hid (etN T n X = 0) := by show _ = _; rw [etN, HF.out]; rfl
      go_enter Try.func6, Try.ntmps6
      go_wp2_with fail
      refine (isBoard_any T n lo hi _ _ (hv.below (B := w.heap.size) (by repeat (first | (with_reducible exact Below.refl _ _) | (with_reducible refine below_ov ?_ ?_) | (with_reducible refine Below.setCell ?_ ?_ _) | (with_reducible refine Below.alloc ?_ ?_ _) | (with_reducible refine Below.drew ?_) | (with_reducible refine below_drewN ?_ _) | (refine Below.trans ?_ (Below.mono ‹Below _ _ _› (by first | omega | (simp; done) | (simp; omega)))) | exact Below.refl _ _ | omega | (focus (simp; done)) | (focus (simp; omega)))) hhi) (by first | omega | (simp; done) | (simp; omega)) hf).mono ?_
      rintro e w2 ⟨rfl, hb2⟩
      have hz2 := hb2.size
      (try (simp at hz2))
      rw [hB]
      go_wp2_with fail
      refine (isTeam_any X w.heap.size 0 lo' hi' _ _ ((TmAt.new X lo' hi' _ w _ hx hhi').below hb2 (Nat.le_refl _)) hfx).mono ?_
      rintro e w3 ⟨rfl, hb3⟩
      have hz3 := hb3.size
      rw [hC]
      go_wp2_with fail
      go_ret2
      rw [HF.out]
      exact brd_nil HN.out (by repeat (first | (with_reducible exact Below.refl _ _) | (with_reducible refine below_ov ?_ ?_) | (with_reducible refine Below.setCell ?_ ?_ _) | (with_reducible refine Below.alloc ?_ ?_ _) | (with_reducible refine Below.drew ?_) | (with_reducible refine below_drewN ?_ _) | (refine Below.trans ?_ (Below.mono ‹Below _ _ _› (by first | omega | (simp; done) | (simp; omega)))) | exact Below.refl _ _ | omega | (focus (simp; done)) | (focus (simp; omega))))
    | true =>
      by_cases h6 : n = 6
      · subst h6
        have HF : Hid (etOk T 6 X = false) := by show _ = _; simp [etOk]
        have HN : Hid (etN T 6 X = 0) := by show _ = _; rw [etN, HF.out]; rfl
        go_enter Try.func6, Try.ntmps6
        go_wp2_with fail
        refine (isBoard_any T 6 lo hi _ _ (hv.below (B := w.heap.size) (by repeat (first | (with_reducible exact Below.refl _ _) | (with_reducible refine below_ov ?_ ?_) | (with_reducible refine Below.setCell ?_ ?_ _) | (with_reducible refine Below.alloc ?_ ?_ _) | (with_reducible refine Below.drew ?_) | (with_reducible refine below_drewN ?_ _) | (refine Below.trans ?_ (Below.mono ‹Below _ _ _› (by first | omega | (simp; done) | (simp; omega)))) | exact Below.refl _ _ | omega | (focus (simp; done)) | (focus (simp; omega)))) hhi) (by first | omega | (simp; done) | (simp; omega)) hf).mono ?_
        rintro e w2 ⟨rfl, hb2⟩
        have hz2 := hb2.size
        (try (simp at hz2))
        rw [hB]
        go_wp2_with fail
        refine (isTeam_any X w.heap.size 0 lo' hi' _ _ ((TmAt.new X lo' hi' _ w _ hx hhi').below hb2 (Nat.le_refl _)) hfx).mono ?_
        rintro e w3 ⟨rfl, hb3⟩
        have hz3 := hb3.size
        rw [hC]
        go_wp2_with fail
        go_ret2
        rw [HF.out]
        exact brd_nil HN.out (by repeat (first | (with_reducible exact Below.refl _ _) | (with_reducible refine below_ov ?_ ?_) | (with_reducible refine Below.setCell ?_ ?_ _) | (with_reducible refine Below.alloc ?_ ?_ _) | (with_reducible refine Below.drew ?_) | (with_reducible refine below_drewN ?_ _) | (refine Below.trans ?_ (Below.mono ‹Below _ _ _› (by first | omega | (simp; done) | (simp; omega)))) | exact Below.refl _ _ | omega | (focus (simp; done)) | (focus (simp; omega))))
      · have d6 : ((n : Int) == 6) = false := by simp; omega
        cases hD : fdB T n X.s with
        | true =>
          have HF : Hid (etOk T n X = false) := by show _ = _; simp [etOk, hD]
          have HN : Hid (etN T n X = 0) := by show _ = _; rw [etN, HF.out]; rfl
          clear h6
          go_enter Try.func6, Try.ntmps6
          go_wp2_with fail
          refine (isBoard_any T n lo hi _ _ (hv.below (B := w.heap.size) (by repeat (first | (with_reducible exact Below.refl _ _) | (with_reducible refine below_ov ?_ ?_) | (with_reducible refine Below.setCell ?_ ?_ _) | (with_reducible refine Below.alloc ?_ ?_ _) | (with_reducible refine Below.drew ?_) | (with_reducible refine below_drewN ?_ _) | (refine Below.trans ?_ (Below.mono ‹Below _ _ _› (by first | omega | (simp; done) | (simp; omega)))) | exact Below.refl _ _ | omega | (focus (simp; done)) | (focus (simp; omega)))) hhi) (by first | omega | (simp; done) | (simp; omega)) hf).mono ?_
          rintro e w2 ⟨rfl, hb2⟩
          have hz2 := hb2.size
          (try (simp at hz2))
          rw [hB]
          go_wp2_with fail
          refine (isTeam_any X w.heap.size 0 lo' hi' _ _ ((TmAt.new X lo' hi' _ w _ hx hhi').below hb2 (Nat.le_refl _)) hfx).mono ?_
          rintro e w3 ⟨rfl, hb3⟩
          have hz3 := hb3.size
          rw [hC]
          have hb23 := hb2.trans (hb3.mono (by simpa using hz2))
          have x0 : w3.cell? ⟨w.heap.size, 0, none⟩ = some (.string X.s) := (hb23.cell (p := ⟨w.heap.size, 0, none⟩) (by simp)).trans (World.cell?_alloc_new _ _ _ _)
          have x1 : w3.cell? ⟨w.heap.size, 1, none⟩ = some (.int .i64 X.v) := (hb23.cell (p := ⟨w.heap.size, 1, none⟩) (by simp)).trans (World.cell?_alloc_new _ _ _ _)
          have x2 : w3.cell? ⟨w.heap.size, 2, none⟩ = some (.int .i64 X.y) := (hb23.cell (p := ⟨w.heap.size, 2, none⟩) (by simp)).trans (World.cell?_alloc_new _ _ _ _)
          have x3 : w3.cell? ⟨w.heap.size, 3, none⟩ = some (.slice B X.n capx) := (hb23.cell (p := ⟨w.heap.size, 3, none⟩) (by simp)).trans (World.cell?_alloc_new _ _ _ _)
          have hb03 : Below w.heap.size w w3 := ((Below.refl _ _).alloc (Nat.le_refl _) _).trans (hb23.mono (by simp))
          have HB23 := hide hb23
          clear hb23
          go_wp2_with fail
          refine (BinT_any T n X _ lo hi _ _ (hv.below (B := w.heap.size) hb03 hhi) (by first | omega | (simp; done) | (simp; omega)) HB.out ⟨_, _, _, rfl⟩).mono ?_
          rintro e w4 ⟨rfl, hb4⟩
          have hz4 := hb4.size
          rw [hD]
          go_wp2_with fail
          go_ret2
          rw [HF.out]
          exact brd_nil HN.out (by repeat (first | (with_reducible exact Below.refl _ _) | (with_reducible refine below_ov ?_ ?_) | (with_reducible refine Below.setCell ?_ ?_ _) | (with_reducible refine Below.alloc ?_ ?_ _) | (with_reducible refine Below.drew ?_) | (with_reducible refine below_drewN ?_ _) | (refine Below.trans ?_ (Below.mono ‹Below _ _ _› (by first | omega | (simp; done) | (simp; omega)))) | exact Below.refl _ _ | omega | (focus (simp; done)) | (focus (simp; omega))))
        | false =>
          have HE : Hid (etOk T n X = true) := by show _ = _; simp [etOk, hD, hC, HB.out, h6]
          have HN : Hid (etN T n X = n + 1) := by show _ = _; rw [etN, if_pos HE.out]
          obtain ⟨k, hk⟩ : ∃ k, k = fdK T n X.s := ⟨_, rfl⟩
          have HK := hide hk
          have HT : Hid (etT T n X = insT T k X) := by show _ = _; rw [etT, ← hk]
          have hkn : k ≤ n := by rw [hk]; exact fdK_le _ _ _
          have hn5 : n ≤ 5 := by omega
          have hpX : 0 < X.n := by have := (tm_facts hC).2.2.2.1; omega
          clear h6 hk
          go_enter Try.func6, Try.ntmps6
          go_wp2_with fail
          refine (isBoard_any T n lo hi _ _ (hv.below (B := w.heap.size) (by repeat (first | (with_reducible exact Below.refl _ _) | (with_reducible refine below_ov ?_ ?_) | (with_reducible refine Below.setCell ?_ ?_ _) | (with_reducible refine Below.alloc ?_ ?_ _) | (with_reducible refine Below.drew ?_) | (with_reducible refine below_drewN ?_ _) | (refine Below.trans ?_ (Below.mono ‹Below _ _ _› (by first | omega | (simp; done) | (simp; omega)))) | exact Below.refl _ _ | omega | (focus (simp; done)) | (focus (simp; omega)))) hhi) (by first | omega | (simp; done) | (simp; omega)) hf).mono ?_
          rintro e w2 ⟨rfl, hb2⟩
          have hz2 := hb2.size
          (try (simp at hz2))
          rw [hB]
          go_wp2_with fail
          refine (isTeam_any X w.heap.size 0 lo' hi' _ _ ((TmAt.new X lo' hi' _ w _ hx hhi').below hb2 (Nat.le_refl _)) hfx).mono ?_
          rintro e w3 ⟨rfl, hb3⟩
          have hz3 := hb3.size
          rw [hC]
          have hb23 := hb2.trans (hb3.mono (by simpa using hz2))
          have x0 : w3.cell? ⟨w.heap.size, 0, none⟩ = some (.string X.s) := (hb23.cell (p := ⟨w.heap.size, 0, none⟩) (by simp)).trans (World.cell?_alloc_new _ _ _ _)
          have x1 : w3.cell? ⟨w.heap.size, 1, none⟩ = some (.int .i64 X.v) := (hb23.cell (p := ⟨w.heap.size, 1, none⟩) (by simp)).trans (World.cell?_alloc_new _ _ _ _)
          have x2 : w3.cell? ⟨w.heap.size, 2, none⟩ = some (.int .i64 X.y) := (hb23.cell (p := ⟨w.heap.size, 2, none⟩) (by simp)).trans (World.cell?_alloc_new _ _ _ _)
          have x3 : w3.cell? ⟨w.heap.size, 3, none⟩ = some (.slice B X.n capx) := (hb23.cell (p := ⟨w.heap.size, 3, none⟩) (by simp)).trans (World.cell?_alloc_new _ _ _ _)
          have hb03 : Below w.heap.size w w3 := ((Below.refl _ _).alloc (Nat.le_refl _) _).trans (hb23.mono (by simp))
          have HB23 := hide hb23
          clear hb23
          go_wp2_with fail
          refine (BinT_any T n X _ lo hi _ _ (hv.below (B := w.heap.size) hb03 hhi) (by first | omega | (simp; done) | (simp; omega)) HB.out ⟨_, _, _, rfl⟩).mono ?_
          rintro e w4 ⟨rfl, hb4⟩
          have hz4 := hb4.size
          rw [hD, ← HK.out]
          have hb04 : Below w.heap.size w w4 := hb03.trans (hb4.mono (by omega))
          have hzd : w4.drew.heap.size = w4.heap.size := rfl
          have HX : Hid (∀ w', Below w4.heap.size w4.drew w' → w'.cell? ⟨w.heap.size, 0, none⟩ = some (.string X.s) ∧ w'.cell? ⟨w.heap.size, 1, none⟩ = some (.int .i64 X.v) ∧ w'.cell? ⟨w.heap.size, 2, none⟩ = some (.int .i64 X.y) ∧ w'.cell? ⟨w.heap.size, 3, none⟩ = some (.slice B X.n capx)) := fun w' hw' => by
            have key : ∀ j v, w3.cell? ⟨w.heap.size, j, none⟩ = some v → w'.cell? ⟨w.heap.size, j, none⟩ = some v := fun j v hj =>
              (hw'.cell (p := ⟨w.heap.size, j, none⟩) (by show w.heap.size < _; omega)).trans ((hb4.cell (p := ⟨w.heap.size, j, none⟩) (by show w.heap.size < _; omega)).trans hj)
            exact ⟨key _ _ x0, key _ _ x1, key _ _ x2, key _ _ x3⟩
          clear x0 x1 x2 x3
          go_wp2_with fail
          refine wp_region_mix [(0, true), (2, true), (3, true), (1, false), (4, false), (5, false), (6, false), (7, true), (8, true)] (fun w' => Below w4.heap.size w4.drew w') (by kernel_rfl) (by kernel_rfl) (by kernel_rfl) (by kernel_rfl) (Below.refl _ _) ?_
          refine mix_look _ _ rfl rfl (fun w' _ => BigFrame.run_move _ rfl w') ?_
          go_simp
          refine mix_look _ _ rfl rfl (fun w' _ => BigFrame.run_move _ rfl w') ?_
          go_simp
          refine mix_look _ (.agg #[.string X.s, .int .i64 X.v, .int .i64 X.y, .slice B X.n capx]) rfl rfl (fun w' hw' => (by obtain ⟨a0, a1, a2, a3⟩ := HX.out w' hw'; go_simp)) ?_
          go_simp
          refine mix_call _ 38 #[.slice A n cap] rfl rfl (by go_simp) ?_
          refine (copyBoard_raw T n lo hi _ _ (hv.below (B := w.heap.size) (Below.drew hb04) hhi) (by simp; omega) hf (bd_pos HB.out)).mono ?_
          rintro e w5 ⟨v5, β, ck, rfl, hr5, hs5, hb5⟩
          have hz5 := hb5.size
          (try (simp at hz5))
          refine ⟨_, rfl, hb5, ?_⟩
          obtain ⟨A5, c5, rfl⟩ := row_form hr5
          go_simp
          refine mix_call _ 39 #[.agg #[.string X.s, .int .i64 X.v, .int .i64 X.y, .slice B X.n capx]] rfl rfl (by go_simp) ?_
          have hb05 : Below w.heap.size w w5 := (Below.drew hb04).trans (hb5.mono (by simp; omega))
          refine (copyTeam_any X lo' hi' _ _ (hx.below (B := w.heap.size) hb05 hhi') (by omega) hpX hfx).mono ?_
          rintro e w6 ⟨u, rfl, hou, hgr6, hb6⟩
          have hz6 := hb6.size
          refine ⟨_, rfl, hb5.trans (hb6.mono hz5), ?_⟩
          obtain ⟨Au, cu, rfl, hcu, _⟩ := hou.sl.open_
          go_simp
          refine mix_value _ (.slice (some ⟨w6.heap.size, 0, none⟩) 1 1) (w6.alloc (.cells #[.string X.s, .int .i64 X.v, .int .i64 X.y, .slice Au X.n cu] 27)) rfl rfl (by go_simp) ((hb5.trans (hb6.mono hz5)).alloc (by omega) _) ?_
          go_simp
          refine mix_call _ 37 #[.slice A5 n c5, .int .i64 k, .slice (some ⟨w6.heap.size, 0, none⟩) 1 1] rfl rfl (by go_simp) ?_
          have hr6 := (row_below hr5 hb6 (Nat.le_refl _)).alloc (.cells #[.string X.s, .int .i64 X.v, .int .i64 X.y, .slice Au X.n cu] 27)
          have hs6 : Subs (w6.alloc (.cells #[.string X.s, .int .i64 X.v, .int .i64 X.y, .slice Au X.n cu] 27)) _ β ck T n := hs5.below (hb6.alloc hz6 _) (Nat.le_refl _)
          refine (InsertTeam_any (tC T ck) (xC X (.slice Au X.n cu)) k n w6.heap.size _ _ _ hr6 hn5 hkn (by simp; omega) (heap_alloc_new w6 _) (fun g hg => by have := (hr6.lt g hg).2; have := (row_below hr5 hb6 (Nat.le_refl _)).lt g hg; omega) (tC_one hs5.one) xC_one).mono ?_
          rintro e w7 ⟨v7, g7, rfl, ho7, hg7, hg7', hk7, hb7⟩
          refine ⟨_, rfl, ((hb5.trans (hb6.mono hz5)).alloc (by omega) _).trans (hb7.mono (by simp)), ?_⟩
          obtain ⟨A7, c7, rfl, _, _⟩ := ho7.open_
          go_simp
          refine mix_look _ _ rfl rfl (fun w' _ => BigFrame.run_assign _ rfl w') ?_
          go_simp
          refine mix_look _ _ rfl rfl (fun w' _ => BigFrame.run_assign _ rfl w') ?_
          go_simp
          have hX : OwnT w7 w.heap.size w7.heap.size (.slice A7 (n + 1) c7) (n + 1) (insT T k X) := by
            obtain ⟨b', b1, b2, b3⟩ := (hou.lf (by omega)).pin hgr6
            have hz7 := hb7.size
            simp at hz7
            have hb' : w7.heap[b']? = w6.heap[b']? := (hk7 b' (by simp; omega) (fun e => by have := (hr5.lt b' e).2; omega)).trans (Deep.blk_alloc_lt _ _ _ b2)
            have hxx := OwnX.entered (w' := w7) hs6 hkn (bd_pos HB.out) hpX ho7 (b3.keep1 hb') (fun i hi => by have := (hs5.1 i hi).2.2; omega) (fun i hi => hk7 _ (by have := (hs5.1 i hi).2.2; simp; omega) (fun e => Subs.apart hs6 (bd_pos HB.out) hr6 e i hi rfl))
            refine ⟨g7, _, _, hxx, fun _ => by omega, fun i hi => ?_⟩
            show w.heap.size ≤ (if i < k then β i else if i = k then b' else β (i - 1)) ∧ (if i < k then β i else if i = k then b' else β (i - 1)) < w7.heap.size
            split
            · have := (hs5.1 i (by omega)).2; omega
            · split
              · omega
              · have := (hs5.1 (i - 1) (by omega)).2; omega
          have hbw : Below w.heap.size w w7 := by
            have h6 : Below w.heap.size w w6 := hb05.trans (hb6.mono (by omega))
            exact (h6.alloc (by omega) _).trans (hb7.mono (by omega))
          have HOT := hide hX
          clear hX hs5 hs6 hr5 hr6 hou ho7 hk7
          refine wpMix_nil ?_
          go_wp2_with fail
          go_ret2
          rw [HE.out, HN.out, HT.out]
          exact ⟨_, rfl, HOT.out, hbw⟩

end Go.Proofs.Ytnfhgnibjebmlaa
