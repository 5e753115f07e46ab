/-
  Texts of this proof, one behind the other (part 4).
-/
import Derived.Test.YtpckhpkbdanjoaaDoorQ3
import Derived.Lib.SliceRun
import Derived.Deep.RegionLaw
import Derived.Lib.AppendZeros
import Derived.Lib.AppendZerosOnto
import Derived.Lib.Overlaps
import Derived.Laws.Externs
import Derived.Laws.NewBlocks
import Derived.Deep.LoopGhost
import Derived.Ground.NamesProg
import Derived.Shelf.Lay
import Derived.Shelf.Bits.Mul64
/-
  General words on rows of the call's own: cells set in a row, a row that is one longer, an element put between (taken together by gen_ins3.py).-/
namespace Go.Proofs.YtpckhpkbdanjoaaDoor
set_option linter.unusedVariables false
set_option linter.unusedSimpArgs false
open Go.RowKit

section
variable {w w' w'' : World} {lo hi lo' hi' E sz n m K cap g : Nat} {v u : Value} {cc cc' : Nat → Value} {c : Nat → Nat → Value} {xs : List Value}
theorem OwnL.set (h : OwnL w lo hi E sz (.slice (some ⟨g, 0, none⟩) n cap) n K cc) {o : Nat} (ho : o < n * sz) (u : Value) : OwnL (w.setCell ⟨g, o, none⟩ u) lo hi E sz (.slice (some ⟨g, 0, none⟩) n cap) n K (fun p => if p = o then u else cc p) := by
  rcases h with ⟨rfl, _⟩ | ⟨g', cap', xs, h0, a1, a2, a3, a4, a5⟩
  · omega
  · injection h0 with e1 e2 e3
    injection e1 with e1
    injection e1 with e1
    subst e1 e3
    refine .inr ⟨g, cap, _, rfl, a1, a2, a3, (a4.stored o u).1, fun p hp hp' => ?_⟩
    have hl := a4.1
    by_cases h1 : p = o
    · subst h1
      simp only [if_true]
      exact List.getElem?_set_self (by omega)
    · simp only [h1, if_false]
      rw [List.getElem?_set_ne (by omega)]
      exact a5 p hp hp'
theorem Own.lf (h : Own w lo hi E sz v n n c) (hsz : 0 < sz) : OwnL w lo hi E sz v n (n * sz) (fun o => c (o / sz) (o % sz)) := by
  obtain ⟨xs, ⟨hl, h1⟩, h2, h3⟩ := h
  rcases h1 with ⟨rfl, rfl⟩ | ⟨g, cap, cur, rfl, hg, hh, hnc, r⟩
  · exact .inl ⟨rfl, none, 0, rfl⟩
  · refine .inr ⟨g, cap, xs, rfl, hg, h2 g rfl, hnc, ⟨hl, .inr ⟨g, cap, cur, rfl, hg, hh, hnc, r⟩⟩, fun o h _ => ?_⟩
    have h5 := h3 (o / sz) (o % sz) ((Nat.div_lt_iff_lt_mul hsz).2 h) (Nat.mod_lt _ hsz)
    rw [Nat.div_add_mod'] at h5
    exact h5
theorem OwnL.keep1 (h : OwnL w g (g + 1) E sz v n K cc) (hk : w'.heap[g]? = w.heap[g]?) : OwnL w' g (g + 1) E sz v n K cc := h.keep fun b h1 h2 => by
  obtain rfl : b = g := by omega
  exact hk
theorem OwnL.setCells : ∀ {vs : List Value} {w : World} {o : Nat} {cc : Nat → Value}, OwnL w lo hi E sz (.slice (some ⟨g, 0, none⟩) n cap) n K cc → o + vs.length ≤ n * sz →
    OwnL (w.setCells g o vs) lo hi E sz (.slice (some ⟨g, 0, none⟩) n cap) n K (fun p => if o ≤ p ∧ p < o + vs.length then vs.getD (p - o) (.bool false) else cc p)
  | [], w, o, cc, h, _ => h.congr fun p _ => by
    have : ¬ (o ≤ p ∧ p < o + 0) := by omega
    show _ = if o ≤ p ∧ p < o + 0 then _ else _
    rw [if_neg this]
  | v :: r, w, o, cc, h, hl => by
    simp only [List.length_cons] at hl
    refine (OwnL.setCells (vs := r) (h.set (o := o) (by omega) v) (by omega)).congr fun p _ => ?_
    simp only [List.length_cons]
    rcases Nat.lt_trichotomy p o with h1 | h1 | h1
    · have a1 : ¬ (o + 1 ≤ p ∧ p < o + 1 + r.length) := by omega
      have a2 : ¬ (o ≤ p ∧ p < o + (r.length + 1)) := by omega
      have a3 : ¬ p = o := by omega
      simp only [a1, a2, a3, if_false]
    · subst h1
      have a1 : ¬ (p + 1 ≤ p ∧ p < p + 1 + r.length) := by omega
      have a2 : p ≤ p ∧ p < p + (r.length + 1) := by omega
      simp only [a1, a2, if_false, if_true, Nat.sub_self]
      simp
    · by_cases h2 : p < o + 1 + r.length
      · have a1 : o + 1 ≤ p ∧ p < o + 1 + r.length := by omega
        have a2 : o ≤ p ∧ p < o + (r.length + 1) := by omega
        simp only [a1, a2, if_true, and_self]
        obtain ⟨q, rfl⟩ : ∃ q, p = o + 1 + q := ⟨p - (o + 1), by omega⟩
        rw [show o + 1 + q - (o + 1) = q by omega, show o + 1 + q - o = q + 1 by omega]
        simp
      · have a1 : ¬ (o + 1 ≤ p ∧ p < o + 1 + r.length) := by omega
        have a2 : ¬ (o ≤ p ∧ p < o + (r.length + 1)) := by omega
        have a3 : ¬ p = o := by omega
        simp only [a1, a2, a3, if_false]
theorem OwnL.cap_le (h : OwnL w lo hi E sz (.slice (some ⟨g, 0, none⟩) n cap) n K cc) (hn : 0 < n) : n ≤ cap ∧ cap ≤ maxLen := by
  rcases h with ⟨h0, _⟩ | ⟨g', cap', xs, h0, a1, a2, a3, ⟨hl, a4⟩, a5⟩
  · omega
  · injection h0 with e1 e2 e3
    subst e3
    rcases a4 with ⟨a4, _⟩ | ⟨x, y, cur, he, hb, hh, hnc, hcm, hcs, ht⟩
    · cases a4
    · injection he with _ _ e3
      subst e3
      exact ⟨a3, hcm⟩
theorem Only.setCells {g : Nat} : ∀ {vs : List Value} {w' : World} {o : Nat}, Only g (g + 1) w w' → Only g (g + 1) w (w'.setCells g o vs)
  | [], _, _, h => h
  | v :: r, w', o, h => Only.setCells (vs := r) (h.setCell (a := ⟨g, o, none⟩) (Nat.le_refl _) (Nat.lt_succ_self _) v)
theorem OwnL.rowL (h : OwnL w lo hi E sz v n (n * sz) (fun o => c (o / sz) (o % sz))) (hn : 0 < n) (hsz : 0 < sz) : w.ownsRow lo E sz v n (rowL c sz n) := by
  rcases h with ⟨h0, _⟩ | ⟨g, cap, xs, rfl, h1, h2, h3, h4, h5⟩
  · omega
  · have : xs = Go.Proofs.YtpckhpkbdanjoaaDoor.rowL c sz n := by
      apply List.ext_getElem?
      intro o
      rcases Nat.lt_or_ge o (n * sz) with ho | ho
      · rw [h5 o ho ho]
        have e2 := rowL_get c sz ((Nat.div_lt_iff_lt_mul hsz).2 ho) (Nat.mod_lt o hsz)
        rw [Nat.div_add_mod'] at e2
        exact e2.symm
      · rw [List.getElem?_eq_none (by rw [h4.1]; omega), List.getElem?_eq_none (by rw [rowL_len]; omega)]
    rw [← this]
    exact h4
theorem row_at (h : w.ownsRow lo E sz v n (rowL c sz n)) (hsz : 0 < sz) (hg : v.ownBlock = some g) : OwnL w g (g + 1) E sz v n (n * sz) (fun o => c (o / sz) (o % sz)) := by
  have h1 := (own_row h).lf hsz
  rcases h1 with h1 | ⟨g', cap, ys, rfl, a1, a2, a3, ⟨a4, a5⟩, a6⟩
  · exact .inl h1
  · injection hg with hg
    have hg : g' = g := hg
    subst hg
    rcases a5 with ⟨a5, _⟩ | ⟨x, y, cur, he, hb, hh, r⟩
    · cases a5
    · injection he with e1 e2 e3
      injection e1 with e1
      injection e1 with e1
      subst e1 e3
      exact .inr ⟨g', cap, ys, rfl, Nat.le_refl _, Nat.lt_succ_self _, a3, ⟨a4, .inr ⟨g', cap, cur, rfl, Nat.le_refl _, hh, r⟩⟩, a6⟩
theorem OwnL.ext1 (h : OwnL w lo hi E sz (.slice (some ⟨g, 0, none⟩) n cap) n K cc) (hn : 0 < n) (hc : n + 1 ≤ cap) : ∃ cc', OwnL w lo hi E sz (.slice (some ⟨g, 0, none⟩) (n + 1) cap) (n + 1) ((n + 1) * sz) cc' ∧ ∀ o, o < K → o < n * sz → cc' o = cc o := by
  rcases h with ⟨h0, _⟩ | ⟨g', cap', xs, h0, a1, a2, a3, ⟨hl, a4⟩, a5⟩
  · omega
  · injection h0 with e1 e2 e3
    injection e1 with e1
    injection e1 with e1
    subst e1 e3
    rcases a4 with ⟨a4, _⟩ | ⟨x, y, cur, he, hb, hh, hnc, hcm, hcs, ht⟩
    · cases a4
    · injection he with e1 _ e3
      injection e1 with e1
      injection e1 with e1
      subst e1 e3
      have hle : (n + 1) * sz ≤ cap * sz := Nat.mul_le_mul_right sz hc
      have hns : n * sz ≤ (n + 1) * sz := Nat.mul_le_mul_right sz (Nat.le_succ n)
      have hlen : (cur.toList.take ((n + 1) * sz)).length = (n + 1) * sz := by rw [List.length_take, Array.length_toList, hcs]; omega
      refine ⟨fun o => (cur.toList.take ((n + 1) * sz)).getD o (.bool false), .inr ⟨g, cap, cur.toList.take ((n + 1) * sz), rfl, a1, a2, hc, ⟨hlen, .inr ⟨g, cap, cur, rfl, hb, hh, hc, hcm, hcs, rfl⟩⟩, fun o ho _ => ?_⟩, fun o ho ho' => ?_⟩
      · simp [List.getD, List.getElem?_eq_getElem (show o < (cur.toList.take ((n + 1) * sz)).length by omega)]
      · have h1 := a5 o ho ho'
        rw [← ht, List.getElem?_take, if_pos ho'] at h1
        show (cur.toList.take ((n + 1) * sz)).getD o (.bool false) = cc o
        rw [List.getD, List.getElem?_take, if_pos (by omega), h1]
        rfl
end
theorem setCells_size (b : Nat) : ∀ (vs : List Value) (o : Nat) (w : World), (w.setCells b o vs).heap.size = w.heap.size
  | [], _, _ => rfl
  | v :: r, o, w => by rw [World.setCells, setCells_size b r]; simp [World.setCell]
theorem setCells_other (b : Nat) {k : Nat} (hk : k ≠ b) : ∀ (vs : List Value) (o : Nat) (w : World), (w.setCells b o vs).heap[k]? = w.heap[k]?
  | [], _, _ => rfl
  | v :: r, o, w => by rw [World.setCells, setCells_other b hk r]; exact Deep.blk_setCell_other _ _ _ _ hk
theorem run_copy_wide {P : Program} (w : World) (dT sT ty elem : TypeId) (b o dLen dCap : Nat) (a : Addr) (sLen sCap sz : Nat) (cs : List Value)
    (hu : P.underlying dT = some (.slice elem)) (hs : (P.info? elem).map (·.size) = some sz) (hn : cs.length = Nat.min sLen dLen * sz)
    (hsrc : ∀ j v, cs[j]? = some v → w.cell? (a.add j) = some v) (hc : ∀ j, j < cs.length → (w.cell? ⟨b, o + j, none⟩).isSome = true) (hf : ∀ j, j < cs.length → w.frozen? ⟨b, o + j, none⟩ = false) (h1 : ∀ v ∈ cs, v.oneCell' = true) :
    (Builtin.copy_ #[dT, sT] ty #[.slice (some ⟨b, o, none⟩) dLen dCap, .slice (some a) sLen sCap]).run P w = .ok (goInt (Nat.min sLen dLen)) (w.setCells b o cs) := by
  have hl := run_loadCells_list (P := P) w a cs hsrc
  have hst := run_storeCells_cells (P := P) b o cs 0 w (by simpa using hc) (by simpa using hf) h1
  rw [hn] at hl
  cases hq : P.info? elem with
  | none => simp [hq] at hs
  | some i =>
    have hi : i.size = sz := by simpa [hq] using hs
    simp [Builtin.copy_, run_underlying hu, Builtin.lenOf, Builtin.firstCells, sizeOf, typeInfo, hq, hi, hl, hst]
theorem wpList_copy_at {P : Program} (w : World) {ops : Array Oper} {rest : List Oper} {o : Oper} {a : Act} {Q : Exit → Act → World → Prop} (hgd : o.guard = none) (d s : Operand) (t t' : TypeId)
    (ho : o.op = .call { callee := .builtin .copy, args := #[d, s], argTypes := #[t, t'] }) (v u : Value) (hd : a.eval d = v) (hs : a.eval s = u) {v' : Value} {w' : World}
    (hr : (Builtin.copy_ #[t, t'] o.type #[v, u]).run P w = .ok v' w') (h : wpList P ops Q rest (a.put o.dst v') w') : wpList P ops Q (o :: rest) a w :=
  wpList_plain hgd fun _ hK => by
    unfold Oper.wp execOp
    simp only [ho, resolve, invoke, builtin, Sem.run_bind, Sem.run_pure, Result.andThen_ok, List.map_toArray, List.map_cons, List.map_nil, hd, hs, hr]
    exact hK _ _ h
theorem step_copy_at {P : Program} {ops : Array Oper} {o : Oper} {a : Act} {w : World} {K : Act → World → Prop} {Q : Exit → Act → World → Prop} {E : Prop}
    (hg : o.guard = none) (d x : Operand) (dT sT : TypeId) (hop : o.op = Op.call { callee := Callee.builtin Builtin.copy, args := #[d, x], argTypes := #[dT, sT] })
    (v u : Value) (hd : a.eval d = v) (hx : a.eval x = u) {v' : Value} {w' : World} (hr : (Builtin.copy_ #[dT, sT] o.type #[v, u]).run P w = .ok v' w') (hK : K (a.put o.dst v') w') :
    if Region.wanted o (yielded ops a.tmps) = true then Oper.wp P o a w K Q else E := by
  have hw : Region.wanted o (yielded ops a.tmps) = true := by simp [Region.wanted, hg]
  rw [if_pos hw]
  unfold Oper.wp
  simp [execOp, hop, resolve, invoke, builtin, hd, hx, hr, Result.andThen]
  exact hK
def insC (k : Nat) (c : Nat → Nat → Value) (x : Nat → Value) (i j : Nat) : Value := if i < k then c i j else if i = k then x j else c (i - 1) j

end Go.Proofs.YtpckhpkbdanjoaaDoor

/-
  Walks: the library's Repeat at one integer: a row of so many.-/
namespace Go.Proofs
open Go.RowKit Go.Shelf
shelf_lay Lays.n212 Nm 212 at Tryd as YtpckhpkbdanjoaaDoor.laysMul
end Go.Proofs
namespace Go.Proofs.YtpckhpkbdanjoaaDoor
set_option linter.unusedVariables false
set_option linter.unusedSimpArgs false
open Go.RowKit Go.Shelf

section
variable {w : World} {lo hi E sz n K cap g : Nat} {cc : Nat → Value}
/-- The cells behind those that are known are filled. -/
theorem OwnL.fill : ∀ {vs : List Value} {w : World} {K : Nat}, OwnL w lo hi E sz (.slice (some ⟨g, 0, none⟩) n cap) n K cc → K + vs.length ≤ n * sz → (∀ i u, vs[i]? = some u → u = cc (K + i)) →
    OwnL (w.setCells g K vs) lo hi E sz (.slice (some ⟨g, 0, none⟩) n cap) n (K + vs.length) cc
  | [], w, K, h, _, _ => h
  | v :: r, w, K, h, hl, hv => by
    simp only [List.length_cons] at hl
    obtain rfl := hv 0 v rfl
    have h1 := OwnL.fill (vs := r) (h.store (by omega)) (by omega) (fun i u hu => by
      have := hv (i + 1) u (by simpa using hu)
      rw [this]; congr 1; omega)
    rw [List.length_cons, show K + (r.length + 1) = K + 1 + r.length by omega]
    exact h1
end
theorem infoI1 : (Tryd.prog.info? 3).map (fun i => (i.zero, i.size, i.bytes)) = some (some (.int .i64 0), 1, 8) := by kernel_rfl
theorem infoI1s : (Tryd.prog.info? 3).map (·.size) = some 1 := by
  obtain ⟨ii, hii, _, iz1, _⟩ := info_parts infoI1
  rw [hii]; simp [iz1]
theorem Mul_any (K : Nat) (w : World) (hK : K ≤ 1000) :
    Calls Tryd.prog 111 #[.int .u64 1, .int .u64 K] w fun e w' => e = .returned (.tuple #[.int .u64 0, .int .u64 K]) ∧ w = w' := by
  have hcon := Any.bits_Mul YtpckhpkbdanjoaaDoor.laysMul 1 K (by omega) (by omega) w
  change Calls Tryd.prog 111 _ _ (fun e w' => _) at hcon
  refine hcon.mono fun e w' ⟨he, hw⟩ => ⟨?_, hw.symm⟩
  rw [he, Nat.one_mul, Nat.div_eq_of_lt (by omega), Nat.mod_eq_of_lt (by omega)]
  rfl
set_option maxRecDepth 100000 in
set_option maxHeartbeats 1600000 in
theorem Repeat_any (K vb : Nat) (w : World) (hvb : w.heap[vb]? = some (.cells #[.int .i64 (-1)] 3 (0, 0))) (hK : 1 ≤ K) (hK' : K ≤ 1000) :
    Calls Tryd.prog 96 #[.slice (some ⟨vb, 0, none⟩) 1 1, .int .i64 K] w fun e w' => ∃ g, e = .returned (.slice (some ⟨g, 0, none⟩) K K) ∧ OwnL w' g (g + 1) 3 1 (.slice (some ⟨g, 0, none⟩) K K) K K (fun _ => .int .i64 (-1)) ∧ w.heap.size ≤ g ∧ g < w'.heap.size ∧ Below w.heap.size w w' := by
  obtain ⟨ii, hii, iz0, iz1, iz2⟩ := info_parts infoI1
  have hvl : vb < w.heap.size := (Array.getElem?_eq_some_iff.1 hvb).1
  have u1 : IntKind.u64.wrap 1 = 1 := rfl
  have u2 : IntKind.u64.wrap (K : Int) = (K : Int) := by rw [IntKind.wrap_u64]; omega
  have u3 : IntKind.i64.wrap (K : Int) = (K : Int) := IntWalk.i64_in _ (by omega)
  go_enter Tryd.func96, Tryd.ntmps96
  go_wp2_with (first | (go_at_call 111; refine (Mul_any _ _ hK').mono ?_; rintro e w' ⟨rfl, rfl⟩) | (at_make; refine wpList_make_full _ rfl (.tmp 29) (.tmp 29) 48 rfl w.heap.size 3 ii _ 1 Tryd.underlying48 hii iz0 iz1 .i64 .i64 K K K rfl rfl rfl rfl (by rw [iz2]; omega) (by unfold maxLen; omega) (Nat.le_refl _) ?_))
  intro w1 hown1 hg1
  have hlt1 : w.heap.size < w1.heap.size := (hown1.lt _ rfl).2
  have hb1 : Below w.heap.size w w1 := (Below.refl _ _).grown hg1 (Nat.le_refl _) (fun k h => by cases h)
  have ho1 : Own w1 w.heap.size (w.heap.size + 1) 3 1 (.slice (some ⟨w.heap.size, 0, none⟩) K K) K 0 (iC (fun _ => 0)) := ⟨_, hown1, fun g hg => by cases hg; exact Nat.lt_succ_self _, fun i j h => absurd h (by omega)⟩
  have hl1 := ho1.l (fun _ => .int .i64 (-1))
  have hvb1 : w1.cell? ⟨vb, 0, none⟩ = some (.int .i64 (-1)) := by
    rw [hb1.cell (p := ⟨vb, 0, none⟩) hvl]
    simp [World.cell?, hvb]
  obtain ⟨W2, hW2⟩ : ∃ W2, W2 = w1.setCells w.heap.size 0 [.int .i64 (-1)] := ⟨_, rfl⟩
  have hl2 : OwnL W2 w.heap.size (w.heap.size + 1) 3 1 (.slice (some ⟨w.heap.size, 0, none⟩) K K) K 1 (fun _ => .int .i64 (-1)) := by
    rw [hW2]
    exact hl1.fill (vs := [.int .i64 (-1)]) (by simp; omega) (fun i u hu => by
      match i, hu with
      | 0, hu => simpa using hu.symm)
  have hcp1 : ∀ ty, (Builtin.copy_ #[48, 48] ty #[.slice (some ⟨w.heap.size, 0, none⟩) K K, .slice (some ⟨vb, 0, none⟩) 1 1]).run Tryd.prog w1 = .ok (.int .i64 1) W2 := fun ty => by
    have e : Nat.min 1 K = 1 := by show min 1 K = 1; omega
    have h := run_copy_wide w1 48 48 ty 3 w.heap.size 0 K K ⟨vb, 0, none⟩ 1 1 1 [.int .i64 (-1)] Tryd.underlying48 infoI1s (by rw [e]; rfl) (fun j v hj => by
      match j, hj with
      | 0, hj => simp at hj; subst hj; rw [Addr.add_lit]; exact hvb1) (fun j hj => by
      obtain ⟨⟨u, a⟩, b, _⟩ := hl1.cell (by omega) (o := j) (by simp at hj; omega)
      rw [Nat.zero_add, a]; rfl) (fun j hj => by
      obtain ⟨⟨u, a⟩, b, _⟩ := hl1.cell (by omega) (o := j) (by simp at hj; omega)
      rw [Nat.zero_add]; exact b) (fun v hv => by simp at hv; subst hv; rfl)
    rw [h, e, hW2]
    rfl
  have hb2 : Below w.heap.size w W2 := by
    rw [hW2]
    exact hb1.trans ((Only.setCells (Only.refl w.heap.size (w.heap.size + 1) w1)).below (Nat.le_refl _) (by omega))
  have hz2 : w.heap.size < W2.heap.size := by rw [hW2, setCells_size]; exact hlt1
  have HL2 := hide hl2
  clear hown1 hg1 ho1 hl1 hvb1 hl2 hW2
  have dk : decide (1 < K) = decide (1 < K) := rfl
  clear dk
  go_wp2_with fail
  clear hcp1
  go_loopg [8] (K - 1) (fun gn q wr => Hid (∀ m : Nat, q = .int .i64 m → K - m ≤ gn) ∧  ∃ m : Nat, 1 ≤ m ∧ m ≤ K ∧ q = .int .i64 m ∧ Hid (OwnL wr w.heap.size (w.heap.size + 1) 3 1 (.slice (some ⟨w.heap.size, 0, none⟩) K K) K m (fun _ => .int .i64 (-1))) ∧ Below w.heap.size w wr ∧ w.heap.size < wr.heap.size)
  case atStart => exact ⟨fun m hm => by injection hm with _ e; omega, 1, by omega, hK, rfl, HL2.out, hb2, hz2⟩
  case round =>
    obtain ⟨hgk, m, hm1, hm, rfl, ho, hb, hlt⟩ := hrel
    have hgm := hgk.out m rfl
    clear hgk
    by_cases hmn : m < K
    · obtain ⟨c, hc⟩ : ∃ c, c = Nat.min m (K - m) := ⟨_, rfl⟩
      have hc1 : 1 ≤ c ∧ c ≤ m ∧ c ≤ K - m := by have e : c = min m (K - m) := hc; omega
      have hcp : ∀ ty dl dc sl sc, dl = K - m → sl = m → (Builtin.copy_ #[48, 48] ty #[.slice (some ⟨w.heap.size, m, none⟩) dl dc, .slice (some ⟨w.heap.size, 0, none⟩) sl sc]).run Tryd.prog wr.drew = .ok (.int .i64 c) (wr.drew.setCells w.heap.size m (List.replicate c (.int .i64 (-1)))) := fun ty dl dc sl sc e1 e2 => by
        subst e1 e2
        have h := run_copy_wide wr.drew 48 48 ty 3 w.heap.size sl (K - sl) dc ⟨w.heap.size, 0, none⟩ sl sc 1 (List.replicate c (.int .i64 (-1))) Tryd.underlying48 infoI1s (by rw [← hc]; simp) (fun j v hj => by
          have hj1 : j < c := by have := (List.getElem?_eq_some_iff.1 hj).1; simpa using this
          rw [List.getElem?_replicate, if_pos hj1] at hj
          rw [Addr.add_lit, Nat.zero_add, ← Option.some.inj hj]
          exact (ho.out.cell (by omega) (o := j) (by omega)).2.2 (by omega)) (fun j hj => by
          simp at hj
          obtain ⟨⟨u, a⟩, b, _⟩ := ho.out.cell (by omega) (o := sl + j) (by omega)
          show (World.cell? wr _).isSome = true
          rw [a]; rfl) (fun j hj => by
          simp at hj
          exact (ho.out.cell (by omega) (o := sl + j) (by omega)).2.1) (fun v hv => by rw [List.eq_of_mem_replicate hv]; rfl)
        rw [h, ← hc]
        rfl
      have HO2 : Hid (OwnL (wr.drew.setCells w.heap.size m (List.replicate c (.int .i64 (-1)))) w.heap.size (w.heap.size + 1) 3 1 (.slice (some ⟨w.heap.size, 0, none⟩) K K) K (m + c) (fun _ => .int .i64 (-1))) := by
        have h := (ho.out.keep1 (w' := wr.drew) rfl).fill (vs := List.replicate c (.int .i64 (-1))) (by simp; omega) (fun i u hu => by
          exact List.eq_of_mem_replicate (List.mem_of_getElem? hu))
        rw [List.length_replicate] at h
        exact h
      have HB : Hid (Below w.heap.size w (wr.drew.setCells w.heap.size m (List.replicate c (.int .i64 (-1))))) := (Below.drew hb).trans ((Only.setCells (Only.refl w.heap.size (w.heap.size + 1) wr.drew)).below (Nat.le_refl _) (by show _ ≤ wr.heap.size; omega))
      have HZ : Hid (w.heap.size < (wr.drew.setCells w.heap.size m (List.replicate c (.int .i64 (-1)))).heap.size) := by
        show _ < _
        rw [setCells_size]; exact hlt
      obtain ⟨W3, hW3⟩ : ∃ W3, W3 = wr.drew.setCells w.heap.size m (List.replicate c (.int .i64 (-1))) := ⟨_, rfl⟩
      rw [← hW3] at HO2 HB HZ
      have l1 : ¬ K = m := by omega
      have z1 : IntKind.i64.wrap ((m : Int) + (c : Int)) = (m : Int) + (c : Int) := IntWalk.i64_in _ (by omega)
      clear hc ho
      go_wp2_with fail
      go_region_law (refine step_copy_at rfl _ _ 48 48 rfl (.slice (some ⟨w.heap.size, m, none⟩) (K - m) (K - m)) (.slice (some ⟨w.heap.size, 0, none⟩) m K) (by simp [Act.eval, Act.put]) (by simp [Act.eval, Act.put]) (hcp _ _ _ _ _ rfl rfl) ?_)
      rw [← hW3]
      go_wp2_with fail
      go_roundg (K - (m + c))
      case measure => omega
      case rel => exact ⟨fun q hq => by injection hq with _ e; omega, m + c, by omega, by omega, by go_num, HO2.out, HB.out, HZ.out⟩
    · obtain rfl : m = K := by omega
      go_wp2_with fail
      go_ret
      exact ⟨_, rfl, ho.out, Nat.le_refl _, hlt, hb⟩

end Go.Proofs.YtpckhpkbdanjoaaDoor

/-
  Words for a queue: a slice somewhere in a block of the call's own, with all its spare cells.-/
namespace Go.Proofs.YtpckhpkbdanjoaaDoor
set_option linter.unusedVariables false
set_option linter.unusedSimpArgs false
open Go.RowKit

structure Tl (w : World) (q sz off n cap : Nat) (c : Nat → Nat → Value) : Prop where
  lt : q < w.heap.size
  le : n ≤ cap
  mx : cap ≤ maxLen
  fr : ∀ o, w.frozen? ⟨q, o, none⟩ = false
  sp : ∀ j, j < cap * sz → (w.cell? ⟨q, off + j, none⟩).isSome = true
  at_ : ∀ i j, i < n → j < sz → w.cell? ⟨q, off + i * sz + j, none⟩ = some (c i j)
section
variable {w w' : World} {q sz off n cap E base : Nat} {c c' : Nat → Nat → Value} {xs : List Value}
theorem Tl.keep (h : Tl w q sz off n cap c) (hk : w'.heap[q]? = w.heap[q]?) (hs : q < w'.heap.size) : Tl w' q sz off n cap c :=
  ⟨hs, h.le, h.mx, fun o => (World.frozen?_of_block (a := ⟨q, o, none⟩) hk).trans (h.fr o), fun j hj => by
    rw [World.cell?_of_block (a := ⟨q, off + j, none⟩) hk]; exact h.sp j hj, fun i j hi hj => (World.cell?_of_block (a := ⟨q, off + i * sz + j, none⟩) hk).trans (h.at_ i j hi hj)⟩
theorem Tl.below {B : Nat} (h : Tl w q sz off n cap c) (hb : Below B w w') (hB : q < B) : Tl w' q sz off n cap c :=
  h.keep (hb.block q hB) (Nat.lt_of_lt_of_le h.lt hb.size)
theorem Tl.congr (h : Tl w q sz off n cap c) (hc : ∀ i j, i < n → j < sz → c i j = c' i j) : Tl w q sz off n cap c' :=
  ⟨h.lt, h.le, h.mx, h.fr, h.sp, fun i j hi hj => (h.at_ i j hi hj).trans (by rw [hc i j hi hj])⟩
/-- Without its first element. -/
theorem Tl.tail (h : Tl w q sz off (n + 1) cap c) : Tl w q sz (if cap = 1 then off else off + sz) n (cap - 1) (fun i => c (i + 1)) := by
  have hle := h.le
  refine ⟨h.lt, by omega, by have := h.mx; omega, h.fr, fun j hj => ?_, fun i j hi hj => ?_⟩
  · by_cases h1 : cap = 1
    · subst h1; simp at hj
    · rw [if_neg h1]
      obtain ⟨k, rfl⟩ : ∃ k, cap = k + 1 := ⟨cap - 1, by omega⟩
      have h2 : (k + 1) * sz = k * sz + sz := Nat.succ_mul k sz
      rw [Nat.add_sub_cancel] at hj
      have := h.sp (sz + j) (by omega)
      rw [show off + sz + j = off + (sz + j) by omega]
      exact this
  · have h1 : ¬ cap = 1 := by omega
    rw [if_neg h1]
    have := h.at_ (i + 1) j (by omega) hj
    rw [Nat.succ_mul] at this
    rw [show off + sz + i * sz + j = off + (i * sz + sz) + j by omega]
    exact this
theorem Tl.of_row (h : w.ownsRow base E sz (.slice (some ⟨q, 0, none⟩) n cap) n xs) (hx : ∀ i j, i < n → j < sz → xs[i * sz + j]? = some (c i j)) : Tl w q sz 0 n cap c := by
  rcases id h.2 with ⟨h1, _⟩ | ⟨g, cp, cur, he, hg, hh, hnc, hcm, hcs, ht⟩
  · cases h1
  · injection he with e1 _ e3
    injection e1 with e1
    injection e1 with e1
    subst e1 e3
    refine ⟨(h.lt q rfl).2, hnc, hcm, fun o => h.frozenAt o, fun j hj => ?_, fun i j hi hj => ?_⟩
    · simp only [World.cell?, hh, Nat.zero_add]
      rw [Array.getElem?_eq_getElem (by omega)]
      rfl
    · rw [Nat.zero_add, h.cellAt _ (lin_lt hi hj)]
      exact hx i j hi hj
/-- One element more. -/
theorem run_append_tl {P : Program} (t ty e : TypeId) (i : TypeInfo) (z : Value) (size bytes : Nat) (ht : P.underlying t = some (.slice e)) (hi : P.info? e = some i) (hz : i.zero = some z)
    (hsize : i.size = size) (hby : i.bytes = bytes) (hzs : z.cells.size = size) (hsz : 0 < size) (h : Tl w q size off n cap c)
    (ad : Addr) (k : Nat) (hnews : ∀ j u, ((List.range size).map (c' n))[j]? = some u → w.cell? (ad.add j) = some u) (h1 : ∀ j, j < size → (c' n j).oneCell' = true) (hc : ∀ i j, i < n → j < size → c i j = c' i j)
    (h63 : n + 1 ≤ maxLen) (hbytes : (n + 1) * bytes ≤ 140737488355328) :
    ∃ q' off' cap' w', (Builtin.append_ #[t, t] ty #[.slice (some ⟨q, off, none⟩) n cap, .slice (some ad) 1 k]).run P w = .ok (.slice (some ⟨q', off', none⟩) (n + 1) cap') w' ∧ Tl w' q' size off' (n + 1) cap' c' ∧ w.grownBy w' (some q) ∧ (q' = q ∨ w.heap.size ≤ q') := by
  have hl : ((List.range size).map (c' n)).length = size := by simp
  have hnl : ((List.range size).map (c' n)).length = 1 * size := by rw [hl, Nat.one_mul]
  have hone : ∀ u ∈ (List.range size).map (c' n), u.oneCell' = true := fun u hu => by
    obtain ⟨j, hj, rfl⟩ := List.mem_map.1 hu
    exact h1 j (List.mem_range.1 hj)
  have hget : ∀ j, j < size → ((List.range size).map (c' n))[j]? = some (c' n j) := fun j hj => by
    rw [List.getElem?_map, List.getElem?_range hj]; rfl
  by_cases hr : n + 1 ≤ cap
  · have hrc : (n + 1) * size ≤ cap * size := Nat.mul_le_mul_right _ hr
    rw [Nat.succ_mul] at hrc
    have hsome : ∀ j, j < ((List.range size).map (c' n)).length → (w.cell? ⟨q, off + n * size + j, none⟩).isSome = true := fun j hj => by
      rw [hl] at hj
      rw [show off + n * size + j = off + (n * size + j) by omega]
      exact h.sp _ (by omega)
    have hrun := run_append_room_cells (P := P) w t ty e i ht hi q off n cap ad 1 k ((List.range size).map (c' n)) (by rw [hsize]; exact hnl) hnews hone hr (by rw [hsize]; exact hsome) (fun j _ => h.fr _)
    rw [hsize] at hrun
    refine ⟨q, off, cap, _, hrun, ⟨by rw [setCells_size]; exact h.lt, hr, h.mx, fun o => (World.frozen?_setCells q _ _ _ _).trans (h.fr o), fun j hj => ?_, fun a b ha hb => ?_⟩, ⟨?_, ?_, ?_, by rw [setCells_size]; exact Nat.le_refl _, fun b _ hb => setCells_other q (fun e => hb (by rw [e])) _ _ _⟩, .inl rfl⟩
    · by_cases hin : n * size ≤ j ∧ j < n * size + size
      · have := World.cell?_setCells_in q ((List.range size).map (c' n)) (off + n * size) w hsome (j - n * size) (by rw [hl]; omega)
        rw [show off + n * size + (j - n * size) = off + j by omega] at this
        rw [this]; rfl
      · rw [World.cell?_setCells_out q _ _ _ _ (fun _ _ => by show off + j < off + n * size ∨ off + n * size + _ ≤ off + j; rw [hl]; omega)]
        exact h.sp j hj
    · rcases Nat.lt_or_ge a n with h2 | h2
      · have h3 := lin_lt h2 hb
        rw [World.cell?_setCells_out q _ _ _ _ (fun _ _ => .inl (by show off + a * size + b < off + n * size; omega)), h.at_ a b h2 hb, hc a b h2 hb]
      · obtain rfl : a = n := by omega
        have := World.cell?_setCells_in q ((List.range size).map (c' a)) (off + a * size) w hsome b (by rw [hl]; exact hb)
        rw [this]
        have h4 := hget b hb
        rw [List.getElem?_eq_getElem (by rw [hl]; exact hb)] at h4
        exact h4
    · exact (Only.setCells (Only.refl q (q + 1) w)).os
    · exact (Only.setCells (Only.refl q (q + 1) w)).tape
    · exact (Only.setCells (Only.refl q (q + 1) w)).output
  · have hol : (rowL c size n).length = n * size := rowL_len _ _ _
    obtain ⟨v', w', hrun, r1, r2⟩ := run_append_arg_grows (P := P) w t ty e i z size bytes ht hi hz hsize hby hzs hsz ⟨q, off, none⟩ n cap (rowL c size n) hol (fun j u hu => by
      have ho : j < n * size := by have := (List.getElem?_eq_some_iff.1 hu).1; omega
      have a1 : j / size < n := (Nat.div_lt_iff_lt_mul hsz).2 ho
      have a2 := Nat.mod_lt j hsz
      have e3 := rowL_get c size a1 a2
      rw [Nat.div_add_mod'] at e3
      rw [hu] at e3
      have e4 := h.at_ _ _ a1 a2
      rw [Nat.add_assoc, Nat.div_add_mod'] at e4
      rw [Addr.add_lit, e4, e3]) ad 1 k ((List.range size).map (c' n)) hnl hnews (by omega) h63 hbytes
    have hrow : rowL c size n ++ (List.range size).map (c' n) = rowL c' size (n + 1) := by rw [rowL, rowL_congr hc]
    rw [hrow] at r1
    rcases id r1.2 with ⟨_, h0⟩ | ⟨g, cp, cur, rfl, hg, hh, hnc, hcm, hcs, htk⟩
    · omega
    · exact ⟨g, 0, cp, w', hrun, Tl.of_row r1 (fun i j hi hj => rowL_get c' size hi hj), ⟨r2.os, r2.tape, r2.output, r2.size, fun b hb _ => r2.block b hb (fun e => by cases e)⟩, .inr hg⟩
end

end Go.Proofs.YtpckhpkbdanjoaaDoor

/-
  Plain words: steps from a cell to all cells, as both texts reckon them: one cell behind the other, its four neighbours in order. No program in sight.-/
namespace Go.Proofs.YtpckhpkbdanjoaaDoor
set_option linter.unusedVariables false
set_option linter.unusedSimpArgs false

def updI (o : Nat → Int) (i : Nat) (x : Int) : Nat → Int := fun j => if j = i then x else o j
def updP (q : Nat → Int × Int) (i : Nat) (x : Int × Int) : Nat → Int × Int := fun j => if j = i then x else q j
/-- The steps so far; the cells in the order in which they are reached, and how many. -/
structure Bs where
  o : Nat → Int
  q : Nat → Int × Int
  m : Nat
/-- The neighbour of p in the direction d is reached first from p. -/
def pshB (F : Nat → ByteArray) (n : Nat) (p : Int × Int) (d : Nat) (s : Bs) : Bool := opP F n (stp p d) && decide (s.o (ixF F (stp p d)) < 0)
def psh (F : Nat → ByteArray) (n : Nat) (p : Int × Int) (d : Nat) (s : Bs) : Bs :=
  if pshB F n p d s = true then ⟨updI s.o (ixF F (stp p d)) (s.o (ixF F p) + 1), updP s.q s.m (stp p d), s.m + 1⟩ else s
def pshN (F : Nat → ByteArray) (n : Nat) (p : Int × Int) : Nat → Bs → Bs
  | 0, s => s
  | d + 1, s => psh F n p d (pshN F n p d s)
/-- So many rounds at most: cell k and those behind it. -/
def bfs (F : Nat → ByteArray) (n : Nat) : Nat → Nat → Bs → Bs
  | 0, _, s => s
  | f + 1, k, s => if k < s.m then bfs F n f (k + 1) (pshN F n (s.q k) 4 s) else s
def bs0 (F : Nat → ByteArray) (a : Int × Int) : Bs := ⟨updI (fun _ => -1) (ixF F a) 0, fun _ => a, 1⟩
def bsF (F : Nat → ByteArray) (n : Nat) (a : Int × Int) : Bs := bfs F n (n * (F 0).size) 0 (bs0 F a)
/-- The steps from a cell, by the number of the other one. -/
def stF (F : Nat → ByteArray) (n : Nat) (a : Int × Int) : Nat → Int := (bsF F n a).o
/-- What holds all along. -/
structure BInv (F : Nat → ByteArray) (n : Nat) (a : Int × Int) (s : Bs) : Prop where
  hq : ∀ i, i < s.m → opP F n (s.q i) = true ∧ 0 ≤ s.o (ixF F (s.q i))
  hb : ∀ j, -1 ≤ s.o j ∧ s.o j < s.m
  hc : s.m + cntF (fun j => decide (s.o j < 0)) (n * (F 0).size) = n * (F 0).size
  ha : opP F n a = true
  h0 : s.o (ixF F a) = 0
  hp : ∀ j, 0 ≤ s.o j → ∃ p, opP F n p = true ∧ ixF F p = j ∧ (p = a ∨ 1 ≤ s.o j ∧ ∃ d, d < 4 ∧ opP F n (stp p d) = true ∧ s.o (ixF F (stp p d)) + 1 = s.o j)
/-- Back again. -/
def opd (d : Nat) : Nat := if d = 0 then 2 else if d = 1 then 3 else if d = 2 then 0 else 1
theorem opd_lt (d : Nat) : opd d < 4 := by unfold opd; split <;> (try split) <;> (try split) <;> omega
theorem stp_opd {p : Int × Int} {d : Nat} (hd : d < 4) : stp (stp p d) (opd d) = p := by
  have : d = 0 ∨ d = 1 ∨ d = 2 ∨ d = 3 := by omega
  rcases this with rfl | rfl | rfl | rfl <;> (apply Prod.ext <;> simp [stp, opd, dR, dC] <;> omega)
theorem cnt_upd {o : Nat → Int} {i N : Nat} {x : Int} (hi : i < N) (h : o i < 0) (hx : 0 ≤ x) : cntF (fun j => decide (updI o i x j < 0)) N + 1 = cntF (fun j => decide (o j < 0)) N := by
  induction N with
  | zero => omega
  | succ N ih =>
    simp only [cntF]
    rcases Nat.lt_or_ge i N with h1 | h1
    · have h2 := ih h1
      have h3 : updI o i x N = o N := by simp [updI]; omega
      simp only [h3]
      omega
    · obtain rfl : i = N := by omega
      have h2 : cntF (fun j => decide (updI o i x j < 0)) i = cntF (fun j => decide (o j < 0)) i := by
        clear ih hi
        have : ∀ M, M ≤ i → cntF (fun j => decide (updI o i x j < 0)) M = cntF (fun j => decide (o j < 0)) M := by
          intro M
          induction M with
          | zero => intro _; rfl
          | succ M ih =>
            intro hM
            simp only [cntF]
            rw [ih (by omega)]
            have h3 : updI o i x M = o M := by simp [updI]; omega
            simp only [h3]
        exact this i (Nat.le_refl _)
      rw [h2]
      have h3 : updI o i x i = x := by simp [updI]
      simp only [h3]
      have h4 : decide (x < 0) = false := decide_eq_false (by omega)
      have h5 : decide (o i < 0) = true := decide_eq_true h
      simp [h4, h5]
section
variable {F : Nat → ByteArray} {n : Nat} {a p : Int × Int} {d : Nat} {s : Bs}
theorem BInv.psh (h : BInv F n a s) (hp : opP F n p = true) (h0 : 0 ≤ s.o (ixF F p)) (hd : d < 4) : BInv F n a (psh F n p d s) ∧ 0 ≤ (Go.Proofs.YtpckhpkbdanjoaaDoor.psh F n p d s).o (ixF F p) ∧ s.m ≤ (Go.Proofs.YtpckhpkbdanjoaaDoor.psh F n p d s).m ∧ ∀ i, i < s.m → (Go.Proofs.YtpckhpkbdanjoaaDoor.psh F n p d s).q i = s.q i := by
  unfold Go.Proofs.YtpckhpkbdanjoaaDoor.psh
  split
  · rename_i hc
    simp only [pshB, Bool.and_eq_true, decide_eq_true_eq] at hc
    obtain ⟨ho, hneg⟩ := hc
    have hlt := ix_lt ho
    have hpb := h.hb (ixF F p)
    have keep : ∀ j, 0 ≤ s.o j → updI s.o (ixF F (stp p d)) (s.o (ixF F p) + 1) j = s.o j := fun j hj => by
      simp only [updI]
      split
      · rename_i e
        subst e
        omega
      · rfl
    refine ⟨⟨?_, ?_, ?_, h.ha, ?_, ?_⟩, ?_, Nat.le_succ _, ?_⟩
    · intro i hi
      simp only [updP]
      split
      · refine ⟨ho, ?_⟩
        simp [updI]
        omega
      · have h1 := h.hq i (by simp at hi; omega)
        exact ⟨h1.1, by rw [keep _ h1.2]; exact h1.2⟩
    · intro j
      have h1 := h.hb j
      simp only [updI]
      split <;> omega
    · have h1 := h.hc
      have h2 := cnt_upd (o := s.o) (x := s.o (ixF F p) + 1) hlt hneg (by omega)
      simp only
      omega
    · show updI _ _ _ _ = 0
      rw [keep _ (by rw [h.h0]; omega)]
      exact h.h0
    · intro j hj
      simp only at hj ⊢
      by_cases e : j = ixF F (stp p d)
      · refine ⟨stp p d, ho, e.symm, .inr ⟨?_, opd d, opd_lt d, ?_, ?_⟩⟩
        · simp [updI, e]; omega
        · rw [stp_opd hd]; exact hp
        · rw [stp_opd hd, keep _ h0]
          simp [updI, e]
      · have ej : updI s.o (ixF F (stp p d)) (s.o (ixF F p) + 1) j = s.o j := by simp [updI, e]
        rw [ej] at hj ⊢
        obtain ⟨x, h1, h2, h3⟩ := h.hp j hj
        refine ⟨x, h1, h2, h3.imp id fun ⟨h4, d', h5, h6, h7⟩ => ⟨h4, d', h5, h6, ?_⟩⟩
        rw [keep _ (by omega)]
        exact h7
    · show 0 ≤ updI _ _ _ _
      rw [keep _ h0]
      exact h0
    · intro i hi
      simp only [updP]
      rw [if_neg (by omega)]
  · exact ⟨h, h0, Nat.le_refl _, fun _ _ => rfl⟩
theorem BInv.pshN (h : BInv F n a s) (hp : opP F n p = true) (h0 : 0 ≤ s.o (ixF F p)) : ∀ {d : Nat}, d ≤ 4 → BInv F n a (pshN F n p d s) ∧ 0 ≤ (Go.Proofs.YtpckhpkbdanjoaaDoor.pshN F n p d s).o (ixF F p) ∧ s.m ≤ (Go.Proofs.YtpckhpkbdanjoaaDoor.pshN F n p d s).m ∧ ∀ i, i < s.m → (Go.Proofs.YtpckhpkbdanjoaaDoor.pshN F n p d s).q i = s.q i
  | 0, _ => ⟨h, h0, Nat.le_refl _, fun _ _ => rfl⟩
  | d + 1, hd => by
    obtain ⟨h1, h2, h3, h5⟩ := h.pshN hp h0 (d := d) (by omega)
    obtain ⟨h4, h6, h7, h8⟩ := h1.psh hp h2 (d := d) (by omega)
    exact ⟨h4, h6, Nat.le_trans h3 h7, fun i hi => (h8 i (by omega)).trans (h5 i hi)⟩
theorem BInv.m_le (h : BInv F n a s) : s.m ≤ n * (F 0).size := by have := h.hc; omega
theorem BInv.m_lt (h : BInv F n a s) {j : Nat} (hj : j < n * (F 0).size) (hn : s.o j < 0) : s.m < n * (F 0).size := by
  have h1 := h.hc
  have : 0 < cntF (fun j => decide (s.o j < 0)) (n * (F 0).size) := by
    have h2 : cntF (fun j => decide (s.o j < 0)) (j + 1) ≤ cntF (fun j => decide (s.o j < 0)) (n * (F 0).size) := cntF_mono _ hj
    have h3 : decide (s.o j < 0) = true := decide_eq_true hn
    simp only [cntF, h3, if_true] at h2
    omega
  omega
theorem BInv.start (ha : opP F n a = true) : BInv F n a (bs0 F a) := by
  have hlt := ix_lt ha
  have hcn : ∀ M, cntF (fun j => decide ((-1 : Int) < 0)) M = M := by
    intro M
    induction M with
    | zero => rfl
    | succ M ih => simp only [cntF] at *; rw [ih]; simp
  refine ⟨?_, ?_, ?_, ha, ?_, ?_⟩
  · intro i _
    exact ⟨ha, by simp [bs0, updI]⟩
  · intro j
    simp only [bs0, updI]
    split <;> simp
  · have h1 := (cnt_upd (o := fun _ => -1) (x := 0) hlt (by simp) (Int.le_refl 0)).trans (hcn (n * (F 0).size))
    exact (Nat.add_comm _ _).trans h1
  · simp [bs0, updI]
  · intro j hj
    simp only [bs0, updI] at hj
    split at hj
    · rename_i e
      exact ⟨a, ha, e.symm, .inl rfl⟩
    · omega
/-- Behind the last cell nothing more happens. -/
theorem bfs_done {f k : Nat} (h : ¬ k < s.m) : bfs F n f k s = s := by
  cases f with
  | zero => rfl
  | succ f => rw [bfs, if_neg h]
theorem bfs_next {f k : Nat} (h : k < s.m) : bfs F n (f + 1) k s = bfs F n f (k + 1) (pshN F n (s.q k) 4 s) := by rw [bfs, if_pos h]
theorem bfs_inv : ∀ (f k : Nat) (s : Bs), BInv F n a s → n * (F 0).size ≤ f + k → BInv F n a (bfs F n f k s) ∧ ∀ j, 0 ≤ s.o j → (bfs F n f k s).o j = s.o j
  | 0, k, s, h, _ => ⟨h, fun _ _ => rfl⟩
  | f + 1, k, s, h, hf => by
    by_cases hk : k < s.m
    · rw [bfs_next hk]
      obtain ⟨h1, h2⟩ := h.hq k hk
      obtain ⟨h3, _⟩ := h.pshN h1 h2 (Nat.le_refl 4)
      obtain ⟨h5, h6⟩ := bfs_inv f (k + 1) _ h3 (by omega)
      have hkeep : ∀ d, d ≤ 4 → ∀ j, 0 ≤ s.o j → (pshN F n (s.q k) d s).o j = s.o j := by
        intro d
        induction d with
        | zero => intro _ j _; rfl
        | succ d ih =>
          intro hd j hj
          have e1 := ih (by omega) j hj
          show (psh F n (s.q k) d (pshN F n (s.q k) d s)).o j = s.o j
          unfold psh
          split
          · rename_i hc
            simp only [pshB, Bool.and_eq_true, decide_eq_true_eq] at hc
            simp only [updI]
            split
            · rename_i e
              rw [← e, e1] at hc
              omega
            · exact e1
          · exact e1
      exact ⟨h5, fun j hj => by rw [h6 j (by rw [hkeep 4 (Nat.le_refl _) j hj]; exact hj)]; exact hkeep 4 (Nat.le_refl _) j hj⟩
    · rw [bfs_done hk]
      exact ⟨h, fun _ _ => rfl⟩
theorem stF_inv (ha : opP F n a = true) : BInv F n a (bsF F n a) := (bfs_inv _ _ _ (BInv.start ha) (by omega)).1
/-- A cell that is reached is the first one, or has a neighbour one step nearer. -/
theorem stF_near (ha : opP F n a = true) (hp : opP F n p = true) (h : 0 ≤ stF F n a (ixF F p)) : p = a ∨ 1 ≤ stF F n a (ixF F p) ∧ ∃ d, d < 4 ∧ opP F n (stp p d) = true ∧ stF F n a (ixF F (stp p d)) + 1 = stF F n a (ixF F p) := by
  obtain ⟨x, h1, h2, h3⟩ := (stF_inv ha).hp _ h
  obtain rfl := ix_inj h1 hp h2
  exact h3
theorem stF_zero (ha : opP F n a = true) : stF F n a (ixF F a) = 0 := (stF_inv ha).h0
theorem stF_bd (ha : opP F n a = true) (j : Nat) : -1 ≤ stF F n a j ∧ stF F n a j < (n * (F 0).size : Nat) := by
  have h1 := (stF_inv ha).hb j
  have h2 := (stF_inv ha).m_le
  exact ⟨h1.1, by show (bsF F n a).o j < _; omega⟩
theorem stF_wall (ha : opP F n a = true) {j : Nat} (h : 0 ≤ stF F n a j) : ∃ p, opP F n p = true ∧ ixF F p = j := by
  obtain ⟨x, h1, h2, _⟩ := (stF_inv ha).hp _ h
  exact ⟨x, h1, h2⟩
end

end Go.Proofs.YtpckhpkbdanjoaaDoor

/-
  Walks: the laws' own helpers for Cell: copies, comparisons, sizes (printed by gen_data.py).-/
namespace Go.Proofs.YtpckhpkbdanjoaaDoor
set_option linter.unusedVariables false
set_option linter.unusedSimpArgs false
open Go.RowKit

set_option maxHeartbeats 400000 in
theorem toCell_any (a0 : Int) (a1 : Int) (w : World) :
    Calls Tryd.prog 21 #[.agg #[.int .i64 a0, .int .i64 a1]] w fun e w' => e = .returned (.agg #[.int .i64 a0, .int .i64 a1]) ∧ Below w.heap.size w w' := by
  go_enter Tryd.func21, Tryd.ntmps21
  go_wp2_with fail
  refine bodyPost_ret (v := .agg #[.int .i64 a0, .int .i64 a1]) (by simp [results, Tryd.results21, go_sem]) rfl ⟨rfl, ?_⟩
  exact (by repeat (first | (with_reducible exact Below.refl _ _) | (with_reducible refine below_ov ?_ ?_) | (with_reducible refine Below.setCell ?_ ?_ _) | (with_reducible refine Below.alloc ?_ ?_ _) | (with_reducible refine Below.drew ?_) | (with_reducible refine below_drewN ?_ _) | (refine Below.trans ?_ (Below.mono ‹Below _ _ _› (by first | omega | (simp; done) | (simp; omega)))) | exact Below.refl _ _ | omega | (focus (simp; done)) | (focus (simp; omega))))
set_option maxHeartbeats 800000 in
theorem eqCell_any (a0 : Int) (a1 : Int) (a0' : Int) (a1' : Int) (w : World) :
    Calls Tryd.prog 61 #[.agg #[.int .i64 a0, .int .i64 a1], .agg #[.int .i64 a0', .int .i64 a1']] w fun e w' => e = .returned (.bool (iiE a0 a1 a0' a1')) ∧ Below w.heap.size w w' := by
  cases h0 : (a0 != a0') with
  | true =>
    have Q0 : Hid (¬ a0 = a0') := by show ¬ a0 = a0'; simpa using h0
    go_enter Tryd.func61, Tryd.ntmps61
    go_wp2_with fail
    go_ret
    exact ⟨ret_bool (by simp [iiE, Q0.out]), (by repeat (first | (with_reducible exact Below.refl _ _) | (with_reducible refine below_ov ?_ ?_) | (with_reducible refine Below.setCell ?_ ?_ _) | (with_reducible refine Below.alloc ?_ ?_ _) | (with_reducible refine Below.drew ?_) | (with_reducible refine below_drewN ?_ _) | (refine Below.trans ?_ (Below.mono ‹Below _ _ _› (by first | omega | (simp; done) | (simp; omega)))) | exact Below.refl _ _ | omega | (focus (simp; done)) | (focus (simp; omega))))⟩
  | false =>
    have Q0 : Hid (a0 = a0') := by show a0 = a0'; simpa using h0
    cases h1 : (a1 != a1') with
    | true =>
      have Q1 : Hid (¬ a1 = a1') := by show ¬ a1 = a1'; simpa using h1
      go_enter Tryd.func61, Tryd.ntmps61
      go_wp2_with fail
      go_ret
      exact ⟨ret_bool (by simp [iiE, Q1.out]), (by repeat (first | (with_reducible exact Below.refl _ _) | (with_reducible refine below_ov ?_ ?_) | (with_reducible refine Below.setCell ?_ ?_ _) | (with_reducible refine Below.alloc ?_ ?_ _) | (with_reducible refine Below.drew ?_) | (with_reducible refine below_drewN ?_ _) | (refine Below.trans ?_ (Below.mono ‹Below _ _ _› (by first | omega | (simp; done) | (simp; omega)))) | exact Below.refl _ _ | omega | (focus (simp; done)) | (focus (simp; omega))))⟩
    | false =>
      have Q1 : Hid (a1 = a1') := by show a1 = a1'; simpa using h1
      go_enter Tryd.func61, Tryd.ntmps61
      go_wp2_with fail
      go_ret
      exact ⟨ret_bool (iiE_iff.2 ⟨Q0.out, Q1.out⟩).symm, (by repeat (first | (with_reducible exact Below.refl _ _) | (with_reducible refine below_ov ?_ ?_) | (with_reducible refine Below.setCell ?_ ?_ _) | (with_reducible refine Below.alloc ?_ ?_ _) | (with_reducible refine Below.drew ?_) | (with_reducible refine below_drewN ?_ _) | (refine Below.trans ?_ (Below.mono ‹Below _ _ _› (by first | omega | (simp; done) | (simp; omega)))) | exact Below.refl _ _ | omega | (focus (simp; done)) | (focus (simp; omega))))⟩
theorem infoCell : (Tryd.prog.info? 38).map (fun i => (i.zero, i.size, i.bytes)) = some (some (.agg #[.int .i64 0, .int .i64 0]), 2, 16) := by kernel_rfl
set_option maxRecDepth 100000 in
set_option maxHeartbeats 1600000 in
theorem toCellS_any (f0 : Nat → Int) (f1 : Nat → Int) (n lo hi : Nat) (v : Value) (w : World) (hv : Sl w lo hi 2 v n (iiC f0 f1)) (hhi : hi ≤ w.heap.size) (hn : n ≤ 1048576) :
    Calls Tryd.prog 13 #[v] w fun e w' => ∃ v', e = .returned v' ∧ Own w' w.heap.size w'.heap.size 38 2 v' n n (iiC f0 f1) ∧ Below w.heap.size w w' := by
  obtain ⟨A, cap, rfl, hcap, hA⟩ := hv.open_
  clear hv
  obtain ⟨i0, hi0, hz0, hz1, hz2⟩ := info_parts infoCell
  go_enter Tryd.func13, Tryd.ntmps13
  go_wp2_with (at_make; refine wpList_make_full _ rfl (.tmp 6) (.tmp 6) 26 rfl w.heap.size 38 i0 _ 2 Tryd.underlying26 hi0 hz0 hz1 .i64 .i64 n n n rfl rfl rfl rfl (by rw [hz2]; omega) (by unfold maxLen; omega) (Nat.le_refl _) ?_; intro w1 hown1 hg1)
  have hlt1 : w.heap.size < w1.heap.size := (hown1.lt _ rfl).2
  have hb1 : Below w.heap.size w w1 := (Below.refl _ _).grown hg1 (Nat.le_refl _) (fun k h => by cases h)
  have ho1 : Own w1 w.heap.size (w.heap.size + 1) 38 2 (.slice (some ⟨w.heap.size, 0, none⟩) n n) n 0 (iiC f0 f1) := ⟨_, hown1, fun g hg => by cases hg; exact Nat.lt_succ_self _, fun i j h => absurd h (by omega)⟩
  clear hown1 hg1
  go_loopw [4] (fun i wr => ∃ k : Nat, k ≤ n ∧ i = .int .i64 k ∧ Own wr w.heap.size (w.heap.size + 1) 38 2 (.slice (some ⟨w.heap.size, 0, none⟩) n n) n k (iiC f0 f1) ∧ Below w.heap.size w wr ∧ w.heap.size < wr.heap.size) (fun i _ => n - (intOf i).toNat)
  case atStart => exact ⟨0, by omega, rfl, ho1, hb1, hlt1⟩
  case round =>
    obtain ⟨k, hk, rfl, ho, hb, hlt⟩ := hrel
    by_cases hkn : k < n
    · obtain ⟨blk, off, rfl, h1, h2, h3⟩ := (hA.below hb (by omega)) (by omega)
      have c0 : wr.cell? ⟨blk, off + k * 2, none⟩ = some (.int .i64 (f0 k)) := h3 k 0 hkn (by omega)
      have c1 : wr.cell? ⟨blk, off + k * 2 + 1, none⟩ = some (.int .i64 (f1 k)) := h3 k 1 hkn (by omega)
      clear h3 hA
      go_wp2_with (go_at_call 21; refine (toCell_any _ _ _).mono ?_; rintro e w2 ⟨rfl, hb2⟩; have ho2 := ho.below hb2 (by omega); obtain ⟨u0, hu0⟩ := ho2.has (o := k * 2) (by omega); have g0 := ho2.free (k * 2); obtain ⟨u1, hu1⟩ := ho2.has (o := k * 2 + 1) (by omega); have g1 := ho2.free (k * 2 + 1); have hz2 := hb2.size)
      go_roundw
      case rel => exact ⟨k + 1, by omega, by go_num, ho2.store2 hkn, (by repeat (first | (with_reducible exact Below.refl _ _) | (with_reducible refine below_ov ?_ ?_) | (with_reducible refine Below.setCell ?_ ?_ _) | (with_reducible refine Below.alloc ?_ ?_ _) | (with_reducible refine Below.drew ?_) | (with_reducible refine below_drewN ?_ _) | (refine Below.trans ?_ (Below.mono ‹Below _ _ _› (by first | omega | (simp; done) | (simp; omega)))) | exact Below.refl _ _ | omega | (focus (simp; done)) | (focus (simp; omega)))), by simp; omega⟩
      case measure => simp [intOf]; omega
    · obtain rfl : k = n := by omega
      go_wp2_with fail
      go_ret
      exact ⟨_, rfl, ho.mono (Nat.le_refl _) (by omega), hb⟩
set_option maxRecDepth 100000 in
set_option maxHeartbeats 1600000 in
theorem eqCellS_any (f0 : Nat → Int) (f1 : Nat → Int) (f0' : Nat → Int) (f1' : Nat → Int) (n n' lo hi lo' hi' : Nat) (v v' : Value) (w : World) (hv : Sl w lo hi 2 v n (iiC f0 f1)) (hv' : Sl w lo' hi' 2 v' n' (iiC f0' f1')) (hhi : hi ≤ w.heap.size) (hhi' : hi' ≤ w.heap.size) (hn : n ≤ 4611686018427387904) (hn' : n' ≤ 4611686018427387904) :
    Calls Tryd.prog 15 #[v, v'] w fun e w' => e = .returned (.bool (iiL f0 f1 f0' f1' n n')) ∧ Below w.heap.size w w' := by
  obtain ⟨A, cap, rfl, hcap, hA⟩ := hv.open_
  obtain ⟨A', cap', rfl, hcap', hA'⟩ := hv'.open_
  clear hv hv'
  by_cases hnn : n = n'
  · subst hnn
    go_enter Tryd.func15, Tryd.ntmps15
    go_wp2_with fail
    go_loopw [5] (fun i wr => ∃ k : Nat, k ≤ n ∧ i = .int .i64 k ∧ Hid (∀ j, j < k → iiE (f0 j) (f1 j) (f0' j) (f1' j) = true) ∧ Below w.heap.size w wr) (fun i _ => n - (intOf i).toNat)
    case atStart => exact ⟨0, by omega, rfl, fun j hj => by omega, Below.refl _ _⟩
    case round =>
      obtain ⟨k, hk, rfl, hj, hb⟩ := hrel
      have hzr := hb.size
      by_cases hkn : k < n
      · obtain ⟨blk, off, rfl, h1, h2, h3⟩ := (hA.below hb (by omega)) (by omega)
        obtain ⟨blk', off', rfl, h1', h2', h3'⟩ := (hA'.below hb (by omega)) (by omega)
        have c0 : wr.cell? ⟨blk, off + k * 2, none⟩ = some (.int .i64 (f0 k)) := h3 k 0 hkn (by omega)
        have c1 : wr.cell? ⟨blk, off + k * 2 + 1, none⟩ = some (.int .i64 (f1 k)) := h3 k 1 hkn (by omega)
        have e0 : wr.cell? ⟨blk', off' + k * 2, none⟩ = some (.int .i64 (f0' k)) := h3' k 0 hkn (by omega)
        have e1 : wr.cell? ⟨blk', off' + k * 2 + 1, none⟩ = some (.int .i64 (f1' k)) := h3' k 1 hkn (by omega)
        have g1 : blk < wr.heap.size := by omega
        have g2 : blk' < wr.heap.size := by omega
        clear h3 hA h3' hA'
        cases he : iiE (f0 k) (f1 k) (f0' k) (f1' k) with
        | false =>
          have HF : Hid (iiL f0 f1 f0' f1' n n = false) := by
            show iiL f0 f1 f0' f1' n n = false
            rw [iiL, allB_false hkn he]; simp
          go_wp2_with fail
          (refine wp_region_below_lit (by kernel_rfl) (by kernel_rfl) ?_; (repeat (first | go_big_quiet_step ((go_at_call 61; exact quiet_ov (eqCell_any _ _ _ _ _))) | quiet_step ((go_at_call 61; exact quiet_ov (eqCell_any _ _ _ _ _))))); refine wpQuiet_nil ?_; intro w1 hb1; have hz1 := hb1.size; (try (simp at hz1)); obtain ⟨hcw1, hfw1⟩ := bcell hb1; (try (have hy1 : w.heap.size < w1.heap.size := by omega)); (try (have hyy1 : w.heap.size + 1 < w1.heap.size := by omega)))
          go_wp2
          go_ret
          exact ⟨ret_bool HF.out.symm, (by repeat (first | (with_reducible exact Below.refl _ _) | (with_reducible refine below_ov ?_ ?_) | (with_reducible refine Below.setCell ?_ ?_ _) | (with_reducible refine Below.alloc ?_ ?_ _) | (with_reducible refine Below.drew ?_) | (with_reducible refine below_drewN ?_ _) | (refine Below.trans ?_ (Below.mono ‹Below _ _ _› (by first | omega | (simp; done) | (simp; omega)))) | exact Below.refl _ _ | omega | (focus (simp; done)) | (focus (simp; omega))))⟩
        | true =>
          have HG := hide he
          go_wp2_with fail
          (refine wp_region_below_lit (by kernel_rfl) (by kernel_rfl) ?_; (repeat (first | go_big_quiet_step ((go_at_call 61; exact quiet_ov (eqCell_any _ _ _ _ _))) | quiet_step ((go_at_call 61; exact quiet_ov (eqCell_any _ _ _ _ _))))); refine wpQuiet_nil ?_; intro w1 hb1; have hz1 := hb1.size; (try (simp at hz1)); obtain ⟨hcw1, hfw1⟩ := bcell hb1; (try (have hy1 : w.heap.size < w1.heap.size := by omega)); (try (have hyy1 : w.heap.size + 1 < w1.heap.size := by omega)))
          go_wp2
          go_roundw
          case rel => exact ⟨k + 1, by omega, by go_num, upto_snoc hj.out HG.out, (by repeat (first | (with_reducible exact Below.refl _ _) | (with_reducible refine below_ov ?_ ?_) | (with_reducible refine Below.setCell ?_ ?_ _) | (with_reducible refine Below.alloc ?_ ?_ _) | (with_reducible refine Below.drew ?_) | (with_reducible refine below_drewN ?_ _) | (refine Below.trans ?_ (Below.mono ‹Below _ _ _› (by first | omega | (simp; done) | (simp; omega)))) | exact Below.refl _ _ | omega | (focus (simp; done)) | (focus (simp; omega))))⟩
          case measure => simp [intOf]; omega
      · obtain rfl : k = n := by omega
        have HE : Hid (iiL f0 f1 f0' f1' k k = true) := by
          show iiL f0 f1 f0' f1' k k = true
          rw [iiL, allB_iff.2 hj.out]; simp
        go_wp2_with fail
        go_ret
        exact ⟨ret_bool HE.out.symm, hb⟩
  · have hne : ((n : Int) != (n' : Int)) = true := by rw [bne_iff_ne]; omega
    go_enter Tryd.func15, Tryd.ntmps15
    go_wp2_with fail
    go_ret
    exact ⟨ret_bool (by simp [iiL, hnn]), Below.refl _ _⟩
set_option maxHeartbeats 800000 in
theorem szCellS_any (A : Option Addr) (n cap : Nat) (left : Int) (w : World) (hl : 0 ≤ left) (hl' : left ≤ 1048576) (hn : n ≤ 9223372036854775807) :
    Calls Tryd.prog 10 #[.slice A n cap, .int .i64 left] w fun e w' => e = .returned (.int .i64 (leftF left n)) ∧ w = w' := by
  by_cases h : left < n
  · have hd : decide (left - (n : Int) < 0) = true := by simp; omega
    go_enter Tryd.func10, Tryd.ntmps10
    go_wp2_with fail
    go_ret
    exact ⟨ret_int (by rw [leftF, if_pos h]), rfl⟩
  · have hd : decide (left - (n : Int) < 0) = false := by simp; omega
    go_enter Tryd.func10, Tryd.ntmps10
    go_wp2_with fail
    go_ret
    exact ⟨ret_int (by rw [leftF, if_neg (by omega)]), rfl⟩

end Go.Proofs.YtpckhpkbdanjoaaDoor
