/-
  Texts of this proof, one behind the other (part 3).
-/
import Derived.Test.YtpckhpkbdanjoaaDoorQ2
import Derived.Deep.Heap
import Derived.Laws.Concat
import Derived.Laws.BytesArg
import Derived.ArgAppend
import Derived.Deep.DeepAppendRoom
import Derived.Ground.NamesProg
import Derived.Shelf.Lay
import Derived.Shelf.Strings.SlTrimAscii
/-
  Words for the laws' marks: a slice of the call's own, cell by cell; what writes to a range of blocks alone; the text of a mark.-/
namespace Go.Proofs.YtpckhpkbdanjoaaDoor
set_option linter.unusedVariables false
set_option linter.unusedSimpArgs false
open Go.RowKit

/-- A slice of the call's own whose first K cells are known (of no element: whatever it points to). -/
def OwnL (w : World) (lo hi E sz : Nat) (v : Value) (n K : Nat) (cc : Nat → Value) : Prop :=
  (n = 0 ∧ ∃ A cap, v = .slice A 0 cap) ∨ ∃ g cap xs, v = .slice (some ⟨g, 0, none⟩) n cap ∧ lo ≤ g ∧ g < hi ∧ n ≤ cap ∧ w.ownsRow lo E sz v n xs ∧ ∀ o, o < K → o < n * sz → xs[o]? = some (cc o)
/-- Nothing below has turned but in the blocks from lo on and below hi. -/
structure Only (lo hi : Nat) (w w' : World) : Prop where
  os : w'.os = w.os
  tape : w'.tape = w.tape
  output : w'.output = w.output
  size : w.heap.size ≤ w'.heap.size
  block : ∀ k, k < w.heap.size → (k < lo ∨ hi ≤ k) → w'.heap[k]? = w.heap[k]?
theorem Only.refl (lo hi : Nat) (w : World) : Only lo hi w w := ⟨rfl, rfl, rfl, Nat.le_refl _, fun _ _ _ => rfl⟩
section
variable {w w' w'' : World} {lo hi E sz n K cap g : Nat} {v u : Value} {cc cc' : Nat → Value}
theorem Only.trans (h : Only lo hi w w') (h' : Only lo hi w' w'') : Only lo hi w w'' :=
  ⟨h'.os.trans h.os, h'.tape.trans h.tape, h'.output.trans h.output, Nat.le_trans h.size h'.size, fun k h1 h2 => (h'.block k (Nat.lt_of_lt_of_le h1 h.size) h2).trans (h.block k h1 h2)⟩
theorem Only.of_below (h : Below w.heap.size w w') : Only lo hi w w' := ⟨h.os, h.tape, h.output, h.size, fun k h1 _ => h.block k h1⟩
theorem Only.then_below (h : Only lo hi w w') (hb : Below w'.heap.size w' w'') : Only lo hi w w'' := h.trans (Only.of_below hb)
theorem Only.below {B : Nat} (h : Only lo hi w w') (h1 : B ≤ lo) (h2 : B ≤ w.heap.size) : Below B w w' := ⟨h.os, h.tape, h.output, h.size, fun k hk => h.block k (by omega) (.inl (by omega))⟩
theorem Only.setCell (h : Only lo hi w w') {a : Addr} (h1 : lo ≤ a.block) (h2 : a.block < hi) (u : Value) : Only lo hi w (w'.setCell a u) := by
  refine ⟨?_, ?_, ?_, ?_, fun k hk hk' => ?_⟩
  · exact (by simp [World.setCell]; exact h.os)
  · exact (by simp [World.setCell]; exact h.tape)
  · exact (by simp [World.setCell]; exact h.output)
  · have := h.size
    simp [World.setCell]; exact this
  · rw [Deep.blk_setCell_other _ _ _ _ (by omega)]
    exact h.block k hk hk'
theorem OwnL.open_ (h : OwnL w lo hi E sz v n K cc) : ∃ A cap, v = .slice A n cap ∧ n ≤ cap ∧ (0 < n → ∃ g, A = some ⟨g, 0, none⟩ ∧ lo ≤ g ∧ g < hi) := by
  rcases h with ⟨rfl, A, cap, rfl⟩ | ⟨g, cap, xs, rfl, h1, h2, h3, h4, h5⟩
  · exact ⟨A, cap, rfl, Nat.zero_le _, fun h => absurd h (Nat.lt_irrefl _)⟩
  · exact ⟨_, cap, rfl, h3, fun _ => ⟨g, rfl, h1, h2⟩⟩
theorem OwnL.less (h : OwnL w lo hi E sz v n K cc) {K' : Nat} (hk : K' ≤ K) : OwnL w lo hi E sz v n K' cc := by
  rcases h with h | ⟨g, cap, xs, h0, h1, h2, h3, h4, h5⟩
  · exact .inl h
  · exact .inr ⟨g, cap, xs, h0, h1, h2, h3, h4, fun o ho ho' => h5 o (by omega) ho'⟩
theorem OwnL.congr (h : OwnL w lo hi E sz v n K cc) (hc : ∀ o, o < K → cc o = cc' o) : OwnL w lo hi E sz v n K cc' := by
  rcases h with h | ⟨g, cap, xs, h0, h1, h2, h3, h4, h5⟩
  · exact .inl h
  · exact .inr ⟨g, cap, xs, h0, h1, h2, h3, h4, fun o ho ho' => (h5 o ho ho').trans (by rw [hc o ho])⟩
theorem OwnL.keep (h : OwnL w lo hi E sz v n K cc) (hk : ∀ b, lo ≤ b → b < hi → w'.heap[b]? = w.heap[b]?) : OwnL w' lo hi E sz v n K cc := by
  rcases h with h | ⟨g, cap, xs, rfl, h1, h2, h3, ⟨hl, h4⟩, h5⟩
  · exact .inl h
  · refine .inr ⟨g, cap, xs, rfl, h1, h2, h3, ⟨hl, ?_⟩, h5⟩
    rcases h4 with ⟨h4, h6⟩ | ⟨g', cap', cur, he, hg, hh, r⟩
    · cases h4
    · injection he with e1 e2 e3
      injection e1 with e1
      injection e1 with e1
      subst e1 e3
      exact .inr ⟨g, cap, cur, rfl, hg, by rw [hk g hg h2]; exact hh, r⟩
theorem OwnL.below {B : Nat} (h : OwnL w lo hi E sz v n K cc) (hb : Below B w w') (hB : hi ≤ B) : OwnL w' lo hi E sz v n K cc := h.keep fun b _ h2 => hb.block b (by omega)
theorem OwnL.mono {lo' hi' : Nat} (h : OwnL w lo hi E sz v n K cc) (h1 : lo' ≤ lo) (h2 : hi ≤ hi') : OwnL w lo' hi' E sz v n K cc := by
  rcases h with h | ⟨g, cap, xs, h0, a1, a2, a3, a4, a5⟩
  · exact .inl h
  · exact .inr ⟨g, cap, xs, h0, by omega, by omega, a3, a4.mono h1, a5⟩
theorem OwnL.cell (h : OwnL w lo hi E sz (.slice (some ⟨g, 0, none⟩) n cap) n K cc) (hn : 0 < n) {o : Nat} (ho : o < n * sz) : (∃ u, w.cell? ⟨g, o, none⟩ = some u) ∧ w.frozen? ⟨g, o, none⟩ = false ∧ (o < K → w.cell? ⟨g, o, none⟩ = some (cc o)) := by
  rcases h with ⟨rfl, _⟩ | ⟨g', cap', xs, h0, a1, a2, a3, a4, a5⟩
  · omega
  · injection h0 with e1 e2 e3
    injection e1 with e1
    injection e1 with e1
    subst e1 e3
    have h1 := a4.cellAt o ho
    have h2 : o < xs.length := by rw [a4.1]; exact ho
    exact ⟨⟨xs[o], by rw [h1]; exact List.getElem?_eq_getElem h2⟩, a4.frozenAt o, fun hk => h1.trans (a5 o hk ho)⟩
theorem OwnL.store (h : OwnL w lo hi E sz (.slice (some ⟨g, 0, none⟩) n cap) n K cc) (hK : K < n * sz) : OwnL (w.setCell ⟨g, K, none⟩ (cc K)) lo hi E sz (.slice (some ⟨g, 0, none⟩) n cap) n (K + 1) cc := by
  rcases h with ⟨rfl, _⟩ | ⟨g', cap', xs, h0, a1, a2, a3, a4, a5⟩
  · omega
  · injection h0 with e1 e2 e3
    injection e1 with e1
    injection e1 with e1
    subst e1 e3
    refine .inr ⟨g, cap, _, rfl, a1, a2, a3, (a4.stored K (cc K)).1, fun o ho ho' => ?_⟩
    have hl := a4.1
    rcases Nat.lt_or_ge o K with h1 | h1
    · rw [List.getElem?_set_ne (by omega)]
      exact a5 o h1 ho'
    · obtain rfl : o = K := by omega
      exact List.getElem?_set_self (by omega)
theorem OwnL.sl (h : OwnL w lo hi E sz v n (n * sz) cc) {c : Nat → Nat → Value} (hc : ∀ i j, i < n → j < sz → cc (i * sz + j) = c i j) : Sl w lo hi sz v n c := by
  rcases h with ⟨rfl, A, cap, rfl⟩ | ⟨g, cap, xs, rfl, a1, a2, a3, a4, a5⟩
  · exact ⟨A, cap, rfl, Nat.zero_le _, fun h => absurd h (Nat.lt_irrefl _)⟩
  · refine ⟨_, _, rfl, a3, fun hn => ⟨g, 0, rfl, a1, a2, fun i j hi hj => ?_⟩⟩
    have hlt := lin_lt hi hj
    rw [Nat.zero_add, a4.cellAt _ hlt, a5 _ hlt hlt, hc i j hi hj]
theorem Own.l {k : Nat} {c : Nat → Nat → Value} (h : Own w lo hi E sz v n k c) (cc : Nat → Value) : OwnL w lo hi E sz v n 0 cc := by
  obtain ⟨xs, ⟨hl, h1⟩, h2, h3⟩ := h
  rcases h1 with ⟨rfl, rfl⟩ | ⟨g, cap, cur, rfl, hg, hh, hnc, r⟩
  · exact .inl ⟨rfl, none, 0, rfl⟩
  · exact .inr ⟨g, cap, xs, rfl, hg, h2 g rfl, hnc, ⟨hl, .inr ⟨g, cap, cur, rfl, hg, hh, hnc, r⟩⟩, fun o h => absurd h (Nat.not_lt_zero _)⟩
end

/-- The digits of a number, put ahead of a text. -/
def mtGo (k : Nat) (out : ByteArray) : ByteArray := if k = 0 then out else mtGo (k / 10) (strOfNums [48 + (k : Int) % 10] ++ out)
termination_by k
decreasing_by omega
/-- The text of a mark. -/
def mT (k : Int) : ByteArray := if k ≤ 0 then ⟨#[109, 48]⟩ else ⟨#[109]⟩ ++ mtGo k.toNat ⟨#[]⟩
set_option maxRecDepth 100000 in
set_option maxHeartbeats 1600000 in
theorem markText_any (k : Int) (w : World) (hk : k ≤ 4611686018427387904) :
    Calls Tryd.prog 62 #[.int .i64 k] w fun e w' => e = .returned (.string (mT k)) ∧ Below w.heap.size w w' := by
  by_cases h : k ≤ 0
  · go_enter Tryd.func62, Tryd.ntmps62
    go_wp2_with fail
    go_ret
    exact ⟨by rw [mT, if_pos h]; rfl, (by repeat (first | (with_reducible exact Below.refl _ _) | (with_reducible refine below_ov ?_ ?_) | (with_reducible refine Below.setCell ?_ ?_ _) | (with_reducible refine Below.alloc ?_ ?_ _) | (with_reducible refine Below.drew ?_) | (with_reducible refine below_drewN ?_ _) | (refine Below.trans ?_ (Below.mono ‹Below _ _ _› (by first | omega | (simp; done) | (simp; omega)))) | exact Below.refl _ _ | omega | (focus (simp; done)) | (focus (simp; omega))))⟩
  · go_enter Tryd.func62, Tryd.ntmps62
    obtain ⟨K, rfl⟩ : ∃ K : Nat, k = K := ⟨k.toNat, by omega⟩
    have HE : Hid (mT (K : Int) = ⟨#[109]⟩ ++ mtGo K ⟨#[]⟩) := by show _ = _; rw [mT, if_neg h]; rfl
    have hcv : ∀ (W : World) (n : Int), (convert 43 9 (.slice (some ⟨W.heap.size, 0, none⟩) 1 1)).run Tryd.prog (W.alloc (.cells #[.int .u8 n] 5)) = .ok (.string (strOfNums [n])) (W.alloc (.cells #[.int .u8 n] 5)) := fun W n =>
      run_convert_bytes_arg _ 43 5 Tryd.underlying43 Tryd.underlying5 W.heap.size 0 1 1 [n] rfl (fun i hi => by
        obtain rfl : i = 0 := by omega
        exact World.cell?_alloc_new _ _ _ _) 9 Tryd.underlying9
    go_wp2_with fail
    go_loopw [0, 3] (fun n o wr => ∃ (j : Nat) (out : ByteArray), n = .int .i64 j ∧ o = .string out ∧ Hid (mtGo j out = mtGo K ⟨#[]⟩) ∧ j + out.size ≤ K ∧ Below w.heap.size w wr) (fun n _ _ => (intOf n).toNat)
    case atStart => exact ⟨K, ⟨#[]⟩, rfl, rfl, rfl, Nat.le_refl _, Below.refl _ _⟩
    case round =>
      obtain ⟨j, out, rfl, rfl, hj, hs, hb⟩ := hrel
      have hzr := hb.size
      by_cases h0 : 0 < j
      · have hq : ¬ (9223372036854775807 < (strOfNums [48 + (j : Int) % 10]).size + out.size) := by rw [strOfNums_size]; simp; omega
        have hq' : (strOfNums [48 + (j : Int) % 10] ++ out).size = out.size + 1 := by simp [ByteArray.size_append, strOfNums_size]; omega
        have HQ := hide hq'
        have HS : Hid (mtGo (j / 10) (strOfNums [48 + (j : Int) % 10] ++ out) = mtGo K ⟨#[]⟩) := by
          show _ = _
          rw [← hj.out, mtGo.eq_1 j, if_neg (by omega)]
        clear hq'
        go_wp2_with fail
        go_roundw
        case rel => exact ⟨j / 10, _, by go_num, rfl, HS, by rw [HQ.out]; omega, (by repeat (first | (with_reducible exact Below.refl _ _) | (with_reducible refine below_ov ?_ ?_) | (with_reducible refine Below.setCell ?_ ?_ _) | (with_reducible refine Below.alloc ?_ ?_ _) | (with_reducible refine Below.drew ?_) | (with_reducible refine below_drewN ?_ _) | (refine Below.trans ?_ (Below.mono ‹Below _ _ _› (by first | omega | (simp; done) | (simp; omega)))) | exact Below.refl _ _ | omega | (focus (simp; done)) | (focus (simp; omega))))⟩
        case measure => simp [intOf]; omega
      · obtain rfl : j = 0 := by omega
        have HO : Hid (out = mtGo K ⟨#[]⟩) := by
          have := hj.out
          rw [mtGo.eq_1, if_pos rfl] at this
          exact this
        go_wp2_with fail
        go_ret
        exact ⟨by rw [HE.out, ← HO.out]; rfl, hb⟩

end Go.Proofs.YtpckhpkbdanjoaaDoor

/-
  Rows of the call's own, element by element; an append that tells where the row lies behind it.-/
namespace Go.Proofs.YtpckhpkbdanjoaaDoor
set_option linter.unusedVariables false
set_option linter.unusedSimpArgs false
open Go.RowKit

/-- The cells of the first k elements, in a row. -/
def rowL (c : Nat → Nat → Value) (sz : Nat) : Nat → List Value
  | 0 => []
  | k + 1 => rowL c sz k ++ (List.range sz).map (c k)
theorem rowL_len (c : Nat → Nat → Value) (sz : Nat) : ∀ k, (rowL c sz k).length = k * sz
  | 0 => by simp [rowL]
  | k + 1 => by simp [rowL, rowL_len c sz k, Nat.succ_mul]
theorem rowL_get (c : Nat → Nat → Value) (sz : Nat) : ∀ {k i j : Nat}, i < k → j < sz → (rowL c sz k)[i * sz + j]? = some (c i j)
  | k + 1, i, j, hi, hj => by
    have hl := rowL_len c sz k
    rcases Nat.lt_or_ge i k with h | h
    · have := lin_lt h hj
      rw [rowL, List.getElem?_append_left (by omega)]
      exact rowL_get c sz h hj
    · obtain rfl : i = k := by omega
      rw [rowL, List.getElem?_append_right (by omega), hl, Nat.add_sub_cancel_left, List.getElem?_map, List.getElem?_range hj]
      rfl
theorem rowL_congr {c c' : Nat → Nat → Value} {sz : Nat} : ∀ {k : Nat}, (∀ i j, i < k → j < sz → c i j = c' i j) → rowL c sz k = rowL c' sz k
  | 0, _ => rfl
  | k + 1, h => by
    rw [rowL, rowL, rowL_congr (fun i j hi hj => h i j (by omega) hj)]
    congr 1
    apply List.map_congr_left
    intro j hj
    exact h k j (by omega) (List.mem_range.1 hj)
theorem rowL_mem {c : Nat → Nat → Value} {sz k : Nat} {u : Value} (h : u ∈ rowL c sz k) : ∃ i j, i < k ∧ j < sz ∧ u = c i j := by
  induction k with
  | zero => simp [rowL] at h
  | succ k ih =>
    rw [rowL, List.mem_append] at h
    rcases h with h | h
    · obtain ⟨i, j, h1, h2, h3⟩ := ih h
      exact ⟨i, j, by omega, h2, h3⟩
    · obtain ⟨j, hj, rfl⟩ := List.mem_map.1 h
      exact ⟨k, j, by omega, List.mem_range.1 hj, rfl⟩
/-- Two rows behind each other. -/
theorem rowL_app (c d : Nat → Nat → Value) (sz n : Nat) : ∀ m, rowL c sz n ++ rowL d sz m = rowL (fun i j => if i < n then c i j else d (i - n) j) sz (n + m)
  | 0 => by
    rw [rowL, List.append_nil, Nat.add_zero]
    exact rowL_congr fun i j hi _ => by simp [hi]
  | m + 1 => by
    rw [rowL, ← List.append_assoc, rowL_app c d sz n m, show n + (m + 1) = n + m + 1 by omega, rowL]
    congr 1
    apply List.map_congr_left
    intro j _
    have : ¬ n + m < n := by omega
    simp [this]
section
variable {w w' : World} {lo hi E sz n k : Nat} {v : Value} {c : Nat → Nat → Value}
theorem own_row (h : w.ownsRow lo E sz v n (rowL c sz n)) : Own w lo w.heap.size E sz v n n c := ⟨_, h, fun g hg => (h.lt g hg).2, fun i j hi hj => rowL_get c sz hi hj⟩
theorem Own.row (h : Own w lo hi E sz v n n c) : w.ownsRow lo E sz v n (rowL c sz n) := by
  obtain ⟨xs, h1, h2, h3⟩ := h
  have : xs = rowL c sz n := by
    apply List.ext_getElem?
    intro o
    rcases Nat.lt_or_ge o (n * sz) with ho | ho
    · have hsz : 0 < sz := by
        rcases Nat.eq_zero_or_pos sz with h0 | h0
        · subst h0; omega
        · exact h0
      have a1 : o / sz < n := (Nat.div_lt_iff_lt_mul hsz).2 ho
      have a2 := Nat.mod_lt o hsz
      have e1 := h3 _ _ a1 a2
      have e2 := rowL_get c sz a1 a2
      rw [Nat.div_add_mod'] at e1 e2
      rw [e1, e2]
    · rw [List.getElem?_eq_none (by rw [h1.1]; omega), List.getElem?_eq_none (by rw [rowL_len]; omega)]
  rw [← this]
  exact h1
theorem Sl.news {blk off cap : Nat} (h : Sl w lo hi sz (.slice (some ⟨blk, off, none⟩) n cap) n c) : ∀ j u, (rowL c sz n)[j]? = some u → w.cell? ((⟨blk, off, none⟩ : Addr).add j) = some u := by
  intro o u hu
  obtain ⟨A, cap', he, _, hA⟩ := h
  injection he with e1 _ _
  subst e1
  have ho : o < n * sz := by
    have := (List.getElem?_eq_some_iff.1 hu).1
    rwa [rowL_len] at this
  have hsz : 0 < sz := by
    rcases Nat.eq_zero_or_pos sz with h0 | h0
    · subst h0; omega
    · exact h0
  have a1 : o / sz < n := (Nat.div_lt_iff_lt_mul hsz).2 ho
  have a2 := Nat.mod_lt o hsz
  obtain ⟨b, f, e, _, _, hc⟩ := hA (Nat.lt_of_le_of_lt (Nat.zero_le _) a1)
  injection e with e
  injection e with e1 e2
  subst e1 e2
  have e3 := rowL_get c sz a1 a2
  rw [Nat.div_add_mod'] at e3
  rw [hu] at e3
  have e4 := hc _ _ a1 a2
  rw [Nat.add_assoc, Nat.div_add_mod'] at e4
  rw [Addr.add_lit, e4, e3]
/-- Rows whose elements are of two types lie in two blocks. -/
theorem OwnL.apart {a b E' sz' n' K K' : Nat} {u : Value} {cc cc' : Nat → Value} (h : OwnL w a (a + 1) E sz v n K cc) (h' : OwnL w b (b + 1) E' sz' u n' K' cc') (hn : 0 < n) (hn' : 0 < n') (hE : E ≠ E') : a ≠ b := by
  rcases h with ⟨h0, _⟩ | ⟨g, cap, xs, rfl, h1, h2, h3, ⟨_, h4⟩, _⟩
  · omega
  rcases h' with ⟨h0, _⟩ | ⟨g', cap', xs', rfl, h1', h2', h3', ⟨_, h4'⟩, _⟩
  · omega
  obtain rfl : g = a := by omega
  obtain rfl : g' = b := by omega
  rcases h4 with ⟨h4, _⟩ | ⟨x, _, cur, he, _, hh, _⟩
  · cases h4
  rcases h4' with ⟨h4', _⟩ | ⟨x', _, cur', he', _, hh', _⟩
  · cases h4'
  injection he with e1 _ _
  injection e1 with e1
  injection e1 with e1
  injection he' with e2 _ _
  injection e2 with e2
  injection e2 with e2
  subst e1 e2
  intro e
  subst e
  rw [hh] at hh'
  injection hh' with hh'
  injection hh' with _ e3 _
  exact hE e3
end
/-- An append onto a row of the call's own: in its own block, or in a new one. -/
theorem wpList_append_two {P : Program} (w : World) {ops : Array Oper} {rest : List Oper} {o : Oper} {a : Act} {Q : Exit → Act → World → Prop} (hgd : o.guard = none) (s x : Operand) (t : TypeId)
    (ho : o.op = .call { callee := .builtin .append, args := #[s, x], argTypes := #[t, t] })
    (base : Nat) (e : TypeId) (i : TypeInfo) (z : Value) (size bytes : Nat) (ht : P.underlying t = some (.slice e)) (hi : P.info? e = some i) (hz : i.zero = some z)
    (hsize : i.size = size) (hby : i.bytes = bytes) (hzs : z.cells.size = size) (hsz : 0 < size)
    (v : Value) (n : Nat) (xs : List Value) (hs : a.eval s = v) (hown : w.ownsRow base e size v n xs)
    (ad : Addr) (m c : Nat) (news : List Value) (hx : a.eval x = .slice (some ad) m c) (hl : news.length = m * size) (hnews : ∀ j u, news[j]? = some u → w.cell? (ad.add j) = some u) (h1 : ∀ u ∈ news, u.oneCell' = true) (hm : 0 < m)
    (h63 : n + m ≤ maxLen) (hbytes : (n + m) * bytes ≤ 140737488355328)
    (h : ∀ v' w', ((v'.ownBlock = v.ownBlock ∧ w'.ownsRow base e size v' (n + m) (xs ++ news) ∧ w.grownBy w' v.ownBlock) ∨ (w'.ownsRow w.heap.size e size v' (n + m) (xs ++ news) ∧ w.grownBy w' none)) → wpList P ops Q rest (a.put o.dst v') w') : wpList P ops Q (o :: rest) a w := by
  rcases hown.2 with ⟨rfl, rfl⟩ | ⟨g, cap, cur, rfl, hbg, hg, hnc, hcm, hcs, htake⟩
  · refine wpList_append_grows w hgd s x t ho e i z size bytes ht hi hz hsize hby hzs hsz none 0 0 [] hs (fun _ => ⟨rfl, rfl⟩) (by simp) (fun b hb => by cases hb) ad m c news hx hl hnews h1 (by omega) h63 hbytes ?_
    intro v' w' r1 r2
    have hx0 : xs = [] := List.eq_nil_of_length_eq_zero (by simpa using hown.1)
    subst hx0
    exact h v' w' (.inr ⟨r1, r2⟩)
  · by_cases hroom : n + m ≤ cap
    · refine wpList_append_own_spare w hgd s x t ho base e i size ht hi hsize g n cap xs hs hown ad m c news hx hl hnews h1 hroom ?_
      intro w' r1 r2
      exact h _ w' (.inl ⟨rfl, r1, r2⟩)
    · refine wpList_append_grows w hgd s x t ho e i z size bytes ht hi hz hsize hby hzs hsz (some ⟨g, 0, none⟩) n cap xs hs (fun h => by cases h) hown.1 (fun b hb => by cases hb; exact hown.cells rfl) ad m c news hx hl hnews h1 (by omega) h63 hbytes ?_
      intro v' w' r1 r2
      exact h v' w' (.inr ⟨r1, r2⟩)

end Go.Proofs.YtpckhpkbdanjoaaDoor

/-
  Plain words: the searched cells: what the program asks of a place is what the reference's list holds; lists of cells with numbers. No program in sight.-/
namespace Go.Proofs.YtpckhpkbdanjoaaDoor
set_option linter.unusedVariables false
set_option linter.unusedSimpArgs false
open Go.RowKit

/-- A cell of a way is on a cell or next to it. -/
def nearB (x y p q : Int) : Bool := inB (p - x) (-1) 1 && inB (q - y) (-1) 1
def anyN (x y : Int) (p q : Nat → Int) (m : Nat) : Bool := decide (0 ≤ fstI (fun t => nearB x y (p t) (q t)) m)
theorem anyN_iff {x y : Int} {p q : Nat → Int} {m : Nat} : anyN x y p q m = true ↔ ∃ t, t < m ∧ nearB x y (p t) (q t) = true := by
  rw [anyN, decide_eq_true_eq]
  rcases fstI_cases (fun t => nearB x y (p t) (q t)) m with ⟨h1, h2⟩ | ⟨k, h1, h2, h3, _⟩
  · rw [h1]
    constructor
    · intro h; omega
    · rintro ⟨t, ht, h⟩
      have := h2 t ht
      rw [this] at h
      cases h
  · rw [h2]
    exact ⟨fun _ => ⟨k, h1, h3⟩, fun _ => by omega⟩
/-- What the program asks of the place with row x and column y. -/
def seT (F : Nat → ByteArray) (n : Nat) (p q : Nat → Int) (m x y : Nat) : Bool := opB F n x y && anyN x y p q m
theorem nr_se {F : Nat → ByteArray} {n m x y : Nat} {p q : Nat → Int} (hy : y < (F 0).size) : nrF F n p q m (x * (F 0).size + y) = seT F n p q m x y := by
  rw [Bool.eq_iff_iff, nrF_iff, seT, Bool.and_eq_true, anyN_iff]
  constructor
  · rintro ⟨s, hs, j, hj, k, hk, ho, e⟩
    obtain ⟨h1, h2, h3, h4⟩ := opP_bd (p := (_, _)) ho
    have e1 := ix_cast (p := (_, _)) ho
    rw [← e] at e1
    obtain ⟨e2, e3⟩ := ix_inj' (W := (F 0).size) (r' := (x : Int)) (c' := (y : Int)) h3 h4 (by omega) (by omega) (by rw [e1]; simp)
    refine ⟨by rw [← e2, ← e3]; exact ho, s, hs, ?_⟩
    simp only at e2 e3
    simp only [nearB, Bool.and_eq_true, inB_iff]
    omega
  · rintro ⟨ho, t, ht, hn⟩
    simp only [nearB, Bool.and_eq_true, inB_iff] at hn
    obtain ⟨⟨a1, a2⟩, a3, a4⟩ := hn
    have e1 : p t + (((x - p t + 1).toNat : Int) - 1) = x := by omega
    have e2 : q t + (((y - q t + 1).toNat : Int) - 1) = y := by omega
    refine ⟨t, ht, (x - p t + 1).toNat, by omega, (y - q t + 1).toNat, by omega, by rw [e1, e2]; exact ho, ?_⟩
    rw [e1, e2]
    have hh : (x : Int) * ((F 0).size : Int) + (y : Int) = (ixF F ((x : Int), (y : Int)) : Int) := ix_cast (p := ((x : Int), (y : Int))) ho
    have e3 : ((x * (F 0).size + y : Nat) : Int) = (ixF F ((x : Int), (y : Int)) : Int) := by rw [← hh]; push_cast; rfl
    exact Int.ofNat_inj.1 e3

/-- The cells with the numbers that pass. -/
def fltC (W : Nat) (P : Nat → Bool) : Nat → List Value
  | 0 => []
  | k + 1 => fltC W P k ++ if P k = true then [.int .i64 ((k : Int) / (W : Int)), .int .i64 ((k : Int) % (W : Int))] else []
theorem fltC_yes {W : Nat} {P : Nat → Bool} {k : Nat} (h : P k = true) : fltC W P (k + 1) = fltC W P k ++ [.int .i64 ((k : Int) / (W : Int)), .int .i64 ((k : Int) % (W : Int))] := by rw [fltC, if_pos h]
theorem fltC_no {W : Nat} {P : Nat → Bool} {k : Nat} (h : P k = false) : fltC W P (k + 1) = fltC W P k := by rw [fltC, h]; simp
theorem fltC_at {W : Nat} {P : Nat → Bool} {x y : Nat} (hy : y < W) (h : P (x * W + y) = true) : fltC W P (x * W + y + 1) = fltC W P (x * W + y) ++ [.int .i64 (x : Int), .int .i64 (y : Int)] := by
  rw [fltC_yes h]
  have hW : 0 < W := by omega
  have e1 : (((x * W + y : Nat) : Int) / (W : Int)) = (x : Int) := by
    rw [← Int.natCast_ediv]
    rw [Nat.mul_comm, Nat.mul_add_div hW, Nat.div_eq_of_lt hy]; rfl
  have e2 : (((x * W + y : Nat) : Int) % (W : Int)) = (y : Int) := by
    rw [← Int.natCast_emod, Nat.mul_comm, Nat.mul_add_mod, Nat.mod_eq_of_lt hy]
  rw [e1, e2]
theorem fltC_congr {W : Nat} {P Q : Nat → Bool} : ∀ {k : Nat}, (∀ i, i < k → P i = Q i) → fltC W P k = fltC W Q k
  | 0, _ => rfl
  | k + 1, h => by rw [fltC, fltC, fltC_congr fun i hi => h i (by omega), h k (by omega)]
def rI (W : Nat) (P : Nat → Bool) (N i : Nat) : Int := fltI P N i / (W : Int)
def cI (W : Nat) (P : Nat → Bool) (N i : Nat) : Int := fltI P N i % (W : Int)
theorem fltI_old {P : Nat → Bool} {k i : Nat} (hi : i < (flt P k).length) : fltI P (k + 1) i = fltI P k i := by
  rw [fltI, fltI, flt]
  congr 1
  simp only [List.getD]
  rw [List.getElem?_append_left hi]
theorem fltI_new {P : Nat → Bool} {k : Nat} (h : P k = true) : fltI P (k + 1) (flt P k).length = k := by
  rw [fltI, flt_yes h]
  simp [List.getD]
theorem fltC_row (W : Nat) (P : Nat → Bool) : ∀ n, fltC W P n = rowL (iiC (rI W P n) (cI W P n)) 2 (flt P n).length
  | 0 => rfl
  | k + 1 => by
    have hc : rowL (iiC (rI W P k) (cI W P k)) 2 (flt P k).length = rowL (iiC (rI W P (k + 1)) (cI W P (k + 1))) 2 (flt P k).length := rowL_congr fun i j hi _ => by
      simp only [iiC, rI, cI, fltI_old hi]
    by_cases h : P k = true
    · rw [fltC_yes h, fltC_row W P k, hc, flt_yes h, List.length_append]
      show _ = rowL _ 2 ((flt P k).length + 1)
      rw [rowL]
      congr 1
      have e : (List.range 2).map (iiC (rI W P (k + 1)) (cI W P (k + 1)) (flt P k).length) = [.int .i64 (rI W P (k + 1) (flt P k).length), .int .i64 (cI W P (k + 1) (flt P k).length)] := rfl
      rw [e, rI, cI, fltI_new h]
    · have h' : P k = false := by simpa using h
      rw [fltC_no h', fltC_row W P k, hc, flt_no h']
/-- The cells with the numbers of a list, one more. -/
theorem rowC_snoc (W : Nat) (P : Nat → Bool) (N t : Nat) : rowL (iiC (rI W P N) (cI W P N)) 2 (t + 1) = rowL (iiC (rI W P N) (cI W P N)) 2 t ++ [.int .i64 (fltI P N t / (W : Int)), .int .i64 (fltI P N t % (W : Int))] := by
  rw [rowL]
  congr 1
theorem fltI_lt {P : Nat → Bool} {N i : Nat} (hi : i < (flt P N).length) : 0 ≤ fltI P N i ∧ fltI P N i < N := by
  rw [fltI]
  have hm : (flt P N).getD i 0 ∈ flt P N := by
    simp only [List.getD]
    rw [List.getElem?_eq_getElem hi]
    exact List.getElem_mem hi
  have := (flt_mem hm).1
  omega

end Go.Proofs.YtpckhpkbdanjoaaDoor

/-
  The library's Trim at a cutset of ASCII bytes, by the kit's contract; what is left of a row of open cells and walls.-/
namespace Go.Proofs
open Go.RowKit Go.Shelf
shelf_lay Lays.n160 Nm 160 at Tryd as YtpckhpkbdanjoaaDoor.laysTrim
end Go.Proofs
namespace Go.Proofs.YtpckhpkbdanjoaaDoor
set_option linter.unusedVariables false
set_option linter.unusedSimpArgs false
open Go.RowKit Go.Shelf Go.Lib

theorem dw_nil {α : Type} (p : α → Bool) : ∀ l : List α, l.dropWhile p = [] ↔ ∀ b ∈ l, p b = true
  | [] => by simp
  | a :: l => by
    have ih := dw_nil p l
    rw [List.dropWhile_cons]
    cases h : p a with
    | true => simp only [if_true, ih, List.mem_cons, forall_eq_or_imp, h, true_and]
    | false => simp [h]
theorem dw_head {α : Type} (p : α → Bool) : ∀ (l : List α) {x : α} {r : List α}, l.dropWhile p = x :: r → p x = false
  | [], _, _, h => by simp at h
  | a :: l, x, r, h => by
    rw [List.dropWhile_cons] at h
    cases e : p a with
    | true => rw [e] at h; exact dw_head p l h
    | false =>
      rw [e] at h
      simp at h
      rw [← h.1]
      exact e
theorem trimS_nil (l cs : List UInt8) : (Lib.trimS l cs).isEmpty = l.all (cs.contains ·) := by
  have key : Lib.trimS l cs = [] ↔ ∀ b ∈ l, cs.contains b = true := by
    unfold Lib.trimS Lib.trimLeftS Lib.trimRightS
    constructor
    · intro h
      have h1 : ∀ b ∈ l.reverse.dropWhile (cs.contains ·), cs.contains b = true := fun b hb => by
        have := (dw_nil _ _).1 h b (List.mem_reverse.2 hb)
        exact this
      have h2 : l.reverse.dropWhile (cs.contains ·) = [] := by
        cases e : l.reverse.dropWhile (cs.contains ·) with
        | nil => rfl
        | cons x r =>
          have h3 := h1 x (by rw [e]; exact List.mem_cons_self)
          have h4 := dw_head _ _ e
          rw [h3] at h4
          cases h4
      intro b hb
      exact (dw_nil _ _).1 h2 b (List.mem_reverse.2 hb)
    · intro h
      have h2 : l.reverse.dropWhile (cs.contains ·) = [] := (dw_nil _ _).2 fun b hb => h b (List.mem_reverse.1 hb)
      rw [h2]
      rfl
  rw [Bool.eq_iff_iff, List.isEmpty_iff, key, List.all_eq_true]
theorem cel_all (s : ByteArray) : s.data.toList.all (fun b => [46, 35].contains b) = allB (cel s) s.size := by
  rw [Bool.eq_iff_iff, List.all_eq_true, allB_iff]
  have hg : ∀ i (h : i < s.size), s.data.toList[i]? = some s[i] := fun i h => by
    rw [List.getElem?_eq_getElem (by simpa using h)]; rfl
  have h1 : ∀ b : UInt8, [46, 35].contains b = true ↔ (b.toNat : Int) = 46 ∨ (b.toNat : Int) = 35 := fun b => by
    simp only [List.contains_cons, List.contains_nil, Bool.or_false, Bool.or_eq_true, beq_iff_eq]
    rw [← UInt8.toNat_inj, ← UInt8.toNat_inj]
    show b.toNat = 46 ∨ b.toNat = 35 ↔ _
    omega
  constructor
  · intro h i hi
    have h2 := h _ (List.mem_of_getElem? (hg i hi))
    rw [cel_iff, ← byteAt_eq hi]
    exact (h1 _).1 h2
  · intro h b hb
    obtain ⟨i, hi, rfl⟩ := List.mem_iff_getElem.1 hb
    have hi' : i < s.size := by simpa using hi
    have h2 := h i hi'
    rw [cel_iff, ← byteAt_eq hi'] at h2
    exact (h1 _).2 h2
theorem Trim_any (s : ByteArray) (w : World) (hs : s.size ≤ maxLen) :
    Calls Tryd.prog 92 #[.string s, .string ⟨#[46, 35]⟩] w fun e w' => (∃ t : ByteArray, e = .returned (.string t) ∧ t.toList.isEmpty = allB (cel s) s.size) ∧ Below w.heap.size w w' := by
  have hcon := Any.strings_Trim_laid YtpckhpkbdanjoaaDoor.laysTrim (by kernel_rfl) s ⟨#[46, 35]⟩ w hs (by decide) (ascii_of_all (by decide))
  change Calls Tryd.prog 92 _ _ (fun e w' => e = .returned (.string ⟨(Lib.trimS s.data.toList [46, 35]).toArray⟩) ∧ Below w.heap.size w w') at hcon
  refine hcon.mono fun e w' ⟨he, hb⟩ => ⟨⟨_, he, ?_⟩, hb⟩
  rw [← cel_all, ← trimS_nil, ByteArray.toList_eq]

end Go.Proofs.YtpckhpkbdanjoaaDoor

/-
  Walks: a floor: the program's word and the reference's.-/
namespace Go.Proofs.YtpckhpkbdanjoaaDoor
set_option linter.unusedVariables false
set_option linter.unusedSimpArgs false
open Go.RowKit

set_option maxRecDepth 100000 in
set_option maxHeartbeats 1600000 in
theorem isFloor_any (F : Nat → ByteArray) (n lo hi : Nat) (v : Value) (w : World) (hv : Sl w lo hi 1 v n (sC F)) (hhi : hi ≤ w.heap.size) (hf : ffits F n) :
    Calls Tryd.prog 56 #[v] w fun e w' => e = .returned (.bool (flB F n)) ∧ Below w.heap.size w w' := by
  obtain ⟨A, cap, rfl, hcap, hA⟩ := hv.open_
  obtain ⟨hn, hsz⟩ := hf
  cases e0 : inB n 1 12 with
  | false =>
    have HF : Hid (flB F n = false) := by show _ = _; simp [flB, e0]
    go_enter Tryd.func56, Tryd.ntmps56
    go_wp2_with (go_at_call 68; refine (inside_any _ _ _ _).mono ?_; rintro e w' ⟨rfl, rfl⟩)
    go_ret
    exact ⟨ret_bool HF.out.symm, (by repeat (first | (with_reducible exact Below.refl _ _) | (with_reducible refine below_ov ?_ ?_) | (with_reducible refine Below.setCell ?_ ?_ _) | (with_reducible refine Below.alloc ?_ ?_ _) | (with_reducible refine Below.drew ?_) | (with_reducible refine below_drewN ?_ _) | (refine Below.trans ?_ (Below.mono ‹Below _ _ _› (by first | omega | (simp; done) | (simp; omega)))) | exact Below.refl _ _ | omega | (focus (simp; done)) | (focus (simp; omega))))⟩
  | true =>
    have e0' := inB_iff.1 e0
    have hn0 : 0 < n := by omega
    have z0 := hsz 0 hn0
    unfold maxLen at z0
    obtain ⟨blk, off, rfl, h1, h2, h3⟩ := hA hn0
    have c0 : w.cell? ⟨blk, off, none⟩ = some (.string (F 0)) := by simpa [sC] using h3 0 0 hn0 (by omega)
    cases e1 : inB (F 0).size 1 12 with
    | false =>
      have HF : Hid (flB F n = false) := by show _ = _; simp [flB, e1]
      go_enter Tryd.func56, Tryd.ntmps56
      go_wp2_with (go_at_call 68; refine (inside_any _ _ _ _).mono ?_; rintro e w' ⟨rfl, rfl⟩)
      go_ret
      exact ⟨ret_bool HF.out.symm, (by repeat (first | (with_reducible exact Below.refl _ _) | (with_reducible refine below_ov ?_ ?_) | (with_reducible refine Below.setCell ?_ ?_ _) | (with_reducible refine Below.alloc ?_ ?_ _) | (with_reducible refine Below.drew ?_) | (with_reducible refine below_drewN ?_ _) | (refine Below.trans ?_ (Below.mono ‹Below _ _ _› (by first | omega | (simp; done) | (simp; omega)))) | exact Below.refl _ _ | omega | (focus (simp; done)) | (focus (simp; omega))))⟩
    | true =>
      have e1' := inB_iff.1 e1
      go_enter Tryd.func56, Tryd.ntmps56
      go_wp2_with (go_at_call 68; refine (inside_any _ _ _ _).mono ?_; rintro e w' ⟨rfl, rfl⟩)
      go_loopw [19] (fun i wr => ∃ k : Nat, k ≤ n ∧ i = .int .i64 k ∧ Hid (∀ j, j < k → rowB F j = true) ∧ Below w.heap.size w wr) (fun i _ => n - (intOf i).toNat)
      case atStart => exact ⟨0, by omega, rfl, fun j hj => by omega, Below.refl _ _⟩
      case round =>
        obtain ⟨k, hk, rfl, hj, hb⟩ := hrel
        have hzr := hb.size
        by_cases hkn : k < n
        · have c0' := (hb.cell (p := ⟨blk, off, none⟩) (show blk < _ by omega)).trans c0
          have ck : wr.cell? ⟨blk, off + k, none⟩ = some (.string (F k)) := by
            have := h3 k 0 hkn (by omega)
            simp only [Nat.mul_one, Nat.add_zero] at this
            exact (hb.cell (p := ⟨blk, off + k, none⟩) (show blk < _ by omega)).trans this
          have l0 : blk < wr.heap.size := by omega
          have zk := hsz k hkn
          clear c0 h3 hA
          cases e2 : ((F k).size == (F 0).size) with
          | false =>
            have HF : Hid (flB F n = false) := flB_no hkn (by simp at e2; simp [rowB, e2])
            have d2 : (((F k).size : Int) != ((F 0).size : Int)) = true := by simp at e2; simp; omega
            clear e2
            go_wp2_with fail
            go_ret
            exact ⟨ret_bool HF.out.symm, (by repeat (first | (with_reducible exact Below.refl _ _) | (with_reducible refine below_ov ?_ ?_) | (with_reducible refine Below.setCell ?_ ?_ _) | (with_reducible refine Below.alloc ?_ ?_ _) | (with_reducible refine Below.drew ?_) | (with_reducible refine below_drewN ?_ _) | (refine Below.trans ?_ (Below.mono ‹Below _ _ _› (by first | omega | (simp; done) | (simp; omega)))) | exact Below.refl _ _ | omega | (focus (simp; done)) | (focus (simp; omega))))⟩
          | true =>
            have d2 : (((F k).size : Int) != ((F 0).size : Int)) = false := by simp at e2; simp; omega
            have e2' : (F k).size = (F 0).size := by simpa using e2
            have HE2 := hide e2'
            clear e2 e2'
            go_wp2_with fail
            refine (Trim_any (F k) _ zk).mono ?_
            rintro e w2 ⟨⟨t, rfl, ht⟩, hb2⟩
            have hz2 := hb2.size
            cases e3 : allB (cel (F k)) (F k).size with
            | false =>
              have HF : Hid (flB F n = false) := flB_no hkn (by simp [rowB, e3])
              rw [e3] at ht
              have ht' : (!t.toList.isEmpty) = true := by simp [ht]
              clear e3
              go_wp2_with fail
              go_ret
              exact ⟨ret_bool HF.out.symm, (by repeat (first | (with_reducible exact Below.refl _ _) | (with_reducible refine below_ov ?_ ?_) | (with_reducible refine Below.setCell ?_ ?_ _) | (with_reducible refine Below.alloc ?_ ?_ _) | (with_reducible refine Below.drew ?_) | (with_reducible refine below_drewN ?_ _) | (refine Below.trans ?_ (Below.mono ‹Below _ _ _› (by first | omega | (simp; done) | (simp; omega)))) | exact Below.refl _ _ | omega | (focus (simp; done)) | (focus (simp; omega))))⟩
            | true =>
              have HG : Hid (rowB F k = true) := by show _ = _; rw [rowB, e3, HE2.out]; simp
              rw [e3] at ht
              have ht' : (!t.toList.isEmpty) = false := by simp [ht]
              clear e3
              go_wp2_with fail
              go_roundw
              case rel => exact ⟨k + 1, by omega, by go_num, upto_snoc hj.out HG.out, (by repeat (first | (with_reducible exact Below.refl _ _) | (with_reducible refine below_ov ?_ ?_) | (with_reducible refine Below.setCell ?_ ?_ _) | (with_reducible refine Below.alloc ?_ ?_ _) | (with_reducible refine Below.drew ?_) | (with_reducible refine below_drewN ?_ _) | (refine Below.trans ?_ (Below.mono ‹Below _ _ _› (by first | omega | (simp; done) | (simp; omega)))) | exact Below.refl _ _ | omega | (focus (simp; done)) | (focus (simp; omega))))⟩
              case measure => simp [intOf]; omega
        · obtain rfl : k = n := by omega
          have HF : Hid (flB F k = true) := by
            show _ = _
            rw [flB, allB_iff.2 hj.out, e0, e1]; rfl
          go_wp2_with fail
          go_ret
          exact ⟨ret_bool HF.out.symm, hb⟩
set_option maxRecDepth 100000 in
set_option maxHeartbeats 1600000 in
theorem seGood_any (F : Nat → ByteArray) (n lo hi : Nat) (v : Value) (w : World) (hv : Sl w lo hi 1 v n (sC F)) (hhi : hi ≤ w.heap.size) (hf : ffits F n) :
    Calls Tryd.prog 52 #[v] w fun e w' => e = .returned (.bool (flB F n)) ∧ Below w.heap.size w w' := by
  obtain ⟨A, cap, rfl, hcap, hA⟩ := hv.open_
  obtain ⟨hn, hsz⟩ := hf
  cases e0 : inB n 1 12 with
  | false =>
    have HF : Hid (flB F n = false) := by show _ = _; simp [flB, e0]
    go_enter Tryd.func52, Tryd.ntmps52
    go_wp2_with (go_at_call 66; refine (l1In_any _ _ _ _).mono ?_; rintro e w' ⟨rfl, rfl⟩)
    go_ret
    exact ⟨ret_bool HF.out.symm, (by repeat (first | (with_reducible exact Below.refl _ _) | (with_reducible refine below_ov ?_ ?_) | (with_reducible refine Below.setCell ?_ ?_ _) | (with_reducible refine Below.alloc ?_ ?_ _) | (with_reducible refine Below.drew ?_) | (with_reducible refine below_drewN ?_ _) | (refine Below.trans ?_ (Below.mono ‹Below _ _ _› (by first | omega | (simp; done) | (simp; omega)))) | exact Below.refl _ _ | omega | (focus (simp; done)) | (focus (simp; omega))))⟩
  | true =>
    have e0' := inB_iff.1 e0
    have hn0 : 0 < n := by omega
    have z0 := hsz 0 hn0
    unfold maxLen at z0
    obtain ⟨blk, off, rfl, h1, h2, h3⟩ := hA hn0
    have c0 : w.cell? ⟨blk, off, none⟩ = some (.string (F 0)) := by simpa [sC] using h3 0 0 hn0 (by omega)
    cases e1 : inB (F 0).size 1 12 with
    | false =>
      have HF : Hid (flB F n = false) := by show _ = _; simp [flB, e1]
      go_enter Tryd.func52, Tryd.ntmps52
      go_wp2_with (go_at_call 66; refine (l1In_any _ _ _ _).mono ?_; rintro e w' ⟨rfl, rfl⟩)
      go_ret
      exact ⟨ret_bool HF.out.symm, (by repeat (first | (with_reducible exact Below.refl _ _) | (with_reducible refine below_ov ?_ ?_) | (with_reducible refine Below.setCell ?_ ?_ _) | (with_reducible refine Below.alloc ?_ ?_ _) | (with_reducible refine Below.drew ?_) | (with_reducible refine below_drewN ?_ _) | (refine Below.trans ?_ (Below.mono ‹Below _ _ _› (by first | omega | (simp; done) | (simp; omega)))) | exact Below.refl _ _ | omega | (focus (simp; done)) | (focus (simp; omega))))⟩
    | true =>
      have e1' := inB_iff.1 e1
      go_enter Tryd.func52, Tryd.ntmps52
      go_wp2_with (go_at_call 66; refine (l1In_any _ _ _ _).mono ?_; rintro e w' ⟨rfl, rfl⟩)
      go_loopw [20] (fun i wr => ∃ k : Nat, k ≤ n ∧ i = .int .i64 k ∧ Hid (∀ j, j < k → rowB F j = true) ∧ Below w.heap.size w wr) (fun i _ => n - (intOf i).toNat)
      case atStart => exact ⟨0, by omega, rfl, fun j hj => by omega, Below.refl _ _⟩
      case round =>
        obtain ⟨k, hk, rfl, hj, hb⟩ := hrel
        have hzr := hb.size
        by_cases hkn : k < n
        · have c0' := (hb.cell (p := ⟨blk, off, none⟩) (show blk < _ by omega)).trans c0
          have ck : wr.cell? ⟨blk, off + k, none⟩ = some (.string (F k)) := by
            have := h3 k 0 hkn (by omega)
            simp only [Nat.mul_one, Nat.add_zero] at this
            exact (hb.cell (p := ⟨blk, off + k, none⟩) (show blk < _ by omega)).trans this
          have l0 : blk < wr.heap.size := by omega
          have zk := hsz k hkn
          clear c0 h3 hA
          cases e2 : ((F k).size == (F 0).size) with
          | false =>
            have HF : Hid (flB F n = false) := flB_no hkn (by simp at e2; simp [rowB, e2])
            have d2 : (((F k).size : Int) != ((F 0).size : Int)) = true := by simp at e2; simp; omega
            clear e2
            go_wp2_with fail
            go_ret
            exact ⟨ret_bool HF.out.symm, (by repeat (first | (with_reducible exact Below.refl _ _) | (with_reducible refine below_ov ?_ ?_) | (with_reducible refine Below.setCell ?_ ?_ _) | (with_reducible refine Below.alloc ?_ ?_ _) | (with_reducible refine Below.drew ?_) | (with_reducible refine below_drewN ?_ _) | (refine Below.trans ?_ (Below.mono ‹Below _ _ _› (by first | omega | (simp; done) | (simp; omega)))) | exact Below.refl _ _ | omega | (focus (simp; done)) | (focus (simp; omega))))⟩
          | true =>
            have d2 : (((F k).size : Int) != ((F 0).size : Int)) = false := by simp at e2; simp; omega
            have e2' : (F k).size = (F 0).size := by simpa using e2
            have HE2 := hide e2'
            clear e2 e2'
            go_wp2_with fail
            obtain ⟨wo, ewo⟩ : ∃ wo : World, wo = wr := ⟨_, rfl⟩
            subst ewo
            have hbo := hb
            unfold maxLen at zk
            go_loopw [5] (fun i wr => ∃ m : Nat, m ≤ (F k).size ∧ i = .int .i64 m ∧ Hid (∀ j, j < m → cel (F k) j = true) ∧ Below w.heap.size w wr) (fun i _ => (F k).size - (intOf i).toNat)
            case atStart => exact ⟨0, by omega, rfl, fun j hj => by omega, hbo⟩
            case round =>
              clear hb hzr
              obtain ⟨m, hm, rfl, hjm, hb⟩ := hrel
              by_cases hmn : m < (F k).size
              · have hby := byteAt_eq hmn
                by_cases i46 : byteAt (F k) m = 46
                · have HG : Hid (cel (F k) m = true) := cel_iff.2 (.inl i46)
                  have d3 : (((F k)[m].toNat : Int) != 46) = false := by simp; omega
                  clear hby i46
                  go_wp2_with fail
                  go_roundw
                  case rel => exact ⟨m + 1, by omega, by go_num, upto_snoc hjm.out HG.out, (by repeat (first | (with_reducible exact Below.refl _ _) | (with_reducible refine below_ov ?_ ?_) | (with_reducible refine Below.setCell ?_ ?_ _) | (with_reducible refine Below.alloc ?_ ?_ _) | (with_reducible refine Below.drew ?_) | (with_reducible refine below_drewN ?_ _) | (refine Below.trans ?_ (Below.mono ‹Below _ _ _› (by first | omega | (simp; done) | (simp; omega)))) | exact Below.refl _ _ | omega | (focus (simp; done)) | (focus (simp; omega))))⟩
                  case measure => simp [intOf]; omega
                · by_cases i35 : byteAt (F k) m = 35
                  · have HG : Hid (cel (F k) m = true) := cel_iff.2 (.inr i35)
                    have d3 : (((F k)[m].toNat : Int) != 46) = true := by simp; omega
                    have d4 : (((F k)[m].toNat : Int) != 35) = false := by simp; omega
                    clear hby i46 i35
                    go_wp2_with fail
                    go_roundw
                    case rel => exact ⟨m + 1, by omega, by go_num, upto_snoc hjm.out HG.out, (by repeat (first | (with_reducible exact Below.refl _ _) | (with_reducible refine below_ov ?_ ?_) | (with_reducible refine Below.setCell ?_ ?_ _) | (with_reducible refine Below.alloc ?_ ?_ _) | (with_reducible refine Below.drew ?_) | (with_reducible refine below_drewN ?_ _) | (refine Below.trans ?_ (Below.mono ‹Below _ _ _› (by first | omega | (simp; done) | (simp; omega)))) | exact Below.refl _ _ | omega | (focus (simp; done)) | (focus (simp; omega))))⟩
                    case measure => simp [intOf]; omega
                  · have HF : Hid (flB F n = false) := flB_no hkn (by simp [rowB, allB_false hmn (cel_no i46 i35)])
                    have d3 : (((F k)[m].toNat : Int) != 46) = true := by simp; omega
                    have d4 : (((F k)[m].toNat : Int) != 35) = true := by simp; omega
                    clear hby i46 i35
                    go_wp2_with fail
                    go_ret
                    exact ⟨ret_bool HF.out.symm, (by repeat (first | (with_reducible exact Below.refl _ _) | (with_reducible refine below_ov ?_ ?_) | (with_reducible refine Below.setCell ?_ ?_ _) | (with_reducible refine Below.alloc ?_ ?_ _) | (with_reducible refine Below.drew ?_) | (with_reducible refine below_drewN ?_ _) | (refine Below.trans ?_ (Below.mono ‹Below _ _ _› (by first | omega | (simp; done) | (simp; omega)))) | exact Below.refl _ _ | omega | (focus (simp; done)) | (focus (simp; omega))))⟩
              · obtain rfl : m = (F k).size := by omega
                have HG : Hid (rowB F k = true) := by show _ = _; rw [rowB, allB_iff.2 hjm.out, HE2.out]; simp
                go_wp2_with fail
                go_roundw
                case rel => exact ⟨k + 1, by omega, by go_num, upto_snoc hj.out HG.out, (by repeat (first | (with_reducible exact Below.refl _ _) | (with_reducible refine below_ov ?_ ?_) | (with_reducible refine Below.setCell ?_ ?_ _) | (with_reducible refine Below.alloc ?_ ?_ _) | (with_reducible refine Below.drew ?_) | (with_reducible refine below_drewN ?_ _) | (refine Below.trans ?_ (Below.mono ‹Below _ _ _› (by first | omega | (simp; done) | (simp; omega)))) | exact Below.refl _ _ | omega | (focus (simp; done)) | (focus (simp; omega))))⟩
                case measure => simp [intOf]; omega
        · obtain rfl : k = n := by omega
          have HF : Hid (flB F k = true) := by
            show _ = _
            rw [flB, allB_iff.2 hj.out, e0, e1]; rfl
          go_wp2_with fail
          go_ret
          exact ⟨ret_bool HF.out.symm, hb⟩

theorem IsFloor_impl (F : Nat → ByteArray) (n lo hi : Nat) (v : Value) (w : World) (hv : Sl w lo hi 1 v n (sC F)) (hhi : hi ≤ w.heap.size) (hf : ffits F n) :
    Calls Tryd.prog 45 #[v] w fun e w' => e = .returned (.bool (flB F n)) ∧ Below w.heap.size w w' := by
  obtain ⟨A, cap, rfl, hcap, hA⟩ := hv.open_
  go_enter Tryd.func45, Tryd.ntmps45
  go_wp2_with (go_at_call 56; refine (isFloor_any F n lo hi _ _ hv hhi hf).mono ?_; rintro e w1 ⟨rfl, hb1⟩; have hz1 := hb1.size; (try (simp at hz1)); obtain ⟨hcw1, hfw1⟩ := bcell hb1; (try (have hy1 : w.heap.size < w1.heap.size := by omega)); (try (have hyy1 : w.heap.size + 1 < w1.heap.size := by omega)); (try (have hyyy1 : w.heap.size + 1 + 1 < w1.heap.size := by omega)))
  go_ret
  exact ⟨rfl, (by repeat (first | (with_reducible exact Below.refl _ _) | (with_reducible refine below_ov ?_ ?_) | (with_reducible refine Below.setCell ?_ ?_ _) | (with_reducible refine Below.alloc ?_ ?_ _) | (with_reducible refine Below.drew ?_) | (with_reducible refine below_drewN ?_ _) | (refine Below.trans ?_ (Below.mono ‹Below _ _ _› (by first | omega | (simp; done) | (simp; omega)))) | exact Below.refl _ _ | omega | (focus (simp; done)) | (focus (simp; omega))))⟩

end Go.Proofs.YtpckhpkbdanjoaaDoor
