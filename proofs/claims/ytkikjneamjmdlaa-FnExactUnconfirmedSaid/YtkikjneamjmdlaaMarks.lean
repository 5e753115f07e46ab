/-
  Words for the laws' marks: a slice of the call's own, cell by cell; what writes to a range of blocks alone; the text of a mark.
-/
import Derived.Test.YtkikjneamjmdlaaOwn
import Derived.Deep.Heap
import Derived.Laws.Concat
import Derived.Laws.BytesArg
namespace Go.Proofs.Ytkikjneamjmdlaa
set_option linter.unusedVariables false
set_option linter.unusedSimpArgs false
open Go.RowKit

/-- A slice of the call's own whose first K cells are known (of no element: whatever it points to). -/
def OwnL (w : World) (lo hi E sz : Nat) (v : Value) (n K : Nat) (cc : Nat → Value) : Prop :=
  (n = 0 ∧ ∃ A cap, v = .slice A 0 cap) ∨ ∃ g cap xs, v = .slice (some ⟨g, 0, none⟩) n cap ∧ lo ≤ g ∧ g < hi ∧ n ≤ cap ∧ w.ownsRow lo E sz v n xs ∧ ∀ o, o < K → o < n * sz → xs[o]? = some (cc o)
/-- Nothing below has turned but in the blocks from lo on and below hi. -/
structure Only (lo hi : Nat) (w w' : World) : Prop where
  os : w'.os = w.os
  tape : w'.tape = w.tape
  output : w'.output = w.output
  size : w.heap.size ≤ w'.heap.size
  block : ∀ k, k < w.heap.size → (k < lo ∨ hi ≤ k) → w'.heap[k]? = w.heap[k]?
theorem Only.refl (lo hi : Nat) (w : World) : Only lo hi w w := ⟨rfl, rfl, rfl, Nat.le_refl _, fun _ _ _ => rfl⟩
section
variable {w w' w'' : World} {lo hi E sz n K cap g : Nat} {v u : Value} {cc cc' : Nat → Value}
theorem Only.trans (h : Only lo hi w w') (h' : Only lo hi w' w'') : Only lo hi w w'' :=
  ⟨h'.os.trans h.os, h'.tape.trans h.tape, h'.output.trans h.output, Nat.le_trans h.size h'.size, fun k h1 h2 => (h'.block k (Nat.lt_of_lt_of_le h1 h.size) h2).trans (h.block k h1 h2)⟩
theorem Only.of_below (h : Below w.heap.size w w') : Only lo hi w w' := ⟨h.os, h.tape, h.output, h.size, fun k h1 _ => h.block k h1⟩
theorem Only.then_below (h : Only lo hi w w') (hb : Below w'.heap.size w' w'') : Only lo hi w w'' := h.trans (Only.of_below hb)
theorem Only.below {B : Nat} (h : Only lo hi w w') (h1 : B ≤ lo) (h2 : B ≤ w.heap.size) : Below B w w' := ⟨h.os, h.tape, h.output, h.size, fun k hk => h.block k (by omega) (.inl (by omega))⟩
theorem Only.setCell (h : Only lo hi w w') {a : Addr} (h1 : lo ≤ a.block) (h2 : a.block < hi) (u : Value) : Only lo hi w (w'.setCell a u) := by
  refine ⟨?_, ?_, ?_, ?_, fun k hk hk' => ?_⟩
  · exact (by simp [World.setCell]; exact h.os)
  · exact (by simp [World.setCell]; exact h.tape)
  · exact (by simp [World.setCell]; exact h.output)
  · have := h.size
    simp [World.setCell]; exact this
  · rw [Deep.blk_setCell_other _ _ _ _ (by omega)]
    exact h.block k hk hk'
theorem OwnL.open_ (h : OwnL w lo hi E sz v n K cc) : ∃ A cap, v = .slice A n cap ∧ n ≤ cap ∧ (0 < n → ∃ g, A = some ⟨g, 0, none⟩ ∧ lo ≤ g ∧ g < hi) := by
  rcases h with ⟨rfl, A, cap, rfl⟩ | ⟨g, cap, xs, rfl, h1, h2, h3, h4, h5⟩
  · exact ⟨A, cap, rfl, Nat.zero_le _, fun h => absurd h (Nat.lt_irrefl _)⟩
  · exact ⟨_, cap, rfl, h3, fun _ => ⟨g, rfl, h1, h2⟩⟩
theorem OwnL.less (h : OwnL w lo hi E sz v n K cc) {K' : Nat} (hk : K' ≤ K) : OwnL w lo hi E sz v n K' cc := by
  rcases h with h | ⟨g, cap, xs, h0, h1, h2, h3, h4, h5⟩
  · exact .inl h
  · exact .inr ⟨g, cap, xs, h0, h1, h2, h3, h4, fun o ho ho' => h5 o (by omega) ho'⟩
theorem OwnL.congr (h : OwnL w lo hi E sz v n K cc) (hc : ∀ o, o < K → cc o = cc' o) : OwnL w lo hi E sz v n K cc' := by
  rcases h with h | ⟨g, cap, xs, h0, h1, h2, h3, h4, h5⟩
  · exact .inl h
  · exact .inr ⟨g, cap, xs, h0, h1, h2, h3, h4, fun o ho ho' => (h5 o ho ho').trans (by rw [hc o ho])⟩
theorem OwnL.keep (h : OwnL w lo hi E sz v n K cc) (hk : ∀ b, lo ≤ b → b < hi → w'.heap[b]? = w.heap[b]?) : OwnL w' lo hi E sz v n K cc := by
  rcases h with h | ⟨g, cap, xs, rfl, h1, h2, h3, ⟨hl, h4⟩, h5⟩
  · exact .inl h
  · refine .inr ⟨g, cap, xs, rfl, h1, h2, h3, ⟨hl, ?_⟩, h5⟩
    rcases h4 with ⟨h4, h6⟩ | ⟨g', cap', cur, he, hg, hh, r⟩
    · cases h4
    · injection he with e1 e2 e3
      injection e1 with e1
      injection e1 with e1
      subst e1 e3
      exact .inr ⟨g, cap, cur, rfl, hg, by rw [hk g hg h2]; exact hh, r⟩
theorem OwnL.below {B : Nat} (h : OwnL w lo hi E sz v n K cc) (hb : Below B w w') (hB : hi ≤ B) : OwnL w' lo hi E sz v n K cc := h.keep fun b _ h2 => hb.block b (by omega)
theorem OwnL.mono {lo' hi' : Nat} (h : OwnL w lo hi E sz v n K cc) (h1 : lo' ≤ lo) (h2 : hi ≤ hi') : OwnL w lo' hi' E sz v n K cc := by
  rcases h with h | ⟨g, cap, xs, h0, a1, a2, a3, a4, a5⟩
  · exact .inl h
  · exact .inr ⟨g, cap, xs, h0, by omega, by omega, a3, a4.mono h1, a5⟩
theorem OwnL.cell (h : OwnL w lo hi E sz (.slice (some ⟨g, 0, none⟩) n cap) n K cc) (hn : 0 < n) {o : Nat} (ho : o < n * sz) : (∃ u, w.cell? ⟨g, o, none⟩ = some u) ∧ w.frozen? ⟨g, o, none⟩ = false ∧ (o < K → w.cell? ⟨g, o, none⟩ = some (cc o)) := by
  rcases h with ⟨rfl, _⟩ | ⟨g', cap', xs, h0, a1, a2, a3, a4, a5⟩
  · omega
  · injection h0 with e1 e2 e3
    injection e1 with e1
    injection e1 with e1
    subst e1 e3
    have h1 := a4.cellAt o ho
    have h2 : o < xs.length := by rw [a4.1]; exact ho
    exact ⟨⟨xs[o], by rw [h1]; exact List.getElem?_eq_getElem h2⟩, a4.frozenAt o, fun hk => h1.trans (a5 o hk ho)⟩
theorem OwnL.store (h : OwnL w lo hi E sz (.slice (some ⟨g, 0, none⟩) n cap) n K cc) (hK : K < n * sz) : OwnL (w.setCell ⟨g, K, none⟩ (cc K)) lo hi E sz (.slice (some ⟨g, 0, none⟩) n cap) n (K + 1) cc := by
  rcases h with ⟨rfl, _⟩ | ⟨g', cap', xs, h0, a1, a2, a3, a4, a5⟩
  · omega
  · injection h0 with e1 e2 e3
    injection e1 with e1
    injection e1 with e1
    subst e1 e3
    refine .inr ⟨g, cap, _, rfl, a1, a2, a3, (a4.stored K (cc K)).1, fun o ho ho' => ?_⟩
    have hl := a4.1
    rcases Nat.lt_or_ge o K with h1 | h1
    · rw [List.getElem?_set_ne (by omega)]
      exact a5 o h1 ho'
    · obtain rfl : o = K := by omega
      exact List.getElem?_set_self (by omega)
theorem OwnL.sl (h : OwnL w lo hi E sz v n (n * sz) cc) {c : Nat → Nat → Value} (hc : ∀ i j, i < n → j < sz → cc (i * sz + j) = c i j) : Sl w lo hi sz v n c := by
  rcases h with ⟨rfl, A, cap, rfl⟩ | ⟨g, cap, xs, rfl, a1, a2, a3, a4, a5⟩
  · exact ⟨A, cap, rfl, Nat.zero_le _, fun h => absurd h (Nat.lt_irrefl _)⟩
  · refine ⟨_, _, rfl, a3, fun hn => ⟨g, 0, rfl, a1, a2, fun i j hi hj => ?_⟩⟩
    have hlt := lin_lt hi hj
    rw [Nat.zero_add, a4.cellAt _ hlt, a5 _ hlt hlt, hc i j hi hj]
theorem Own.l {k : Nat} {c : Nat → Nat → Value} (h : Own w lo hi E sz v n k c) (cc : Nat → Value) : OwnL w lo hi E sz v n 0 cc := by
  obtain ⟨xs, ⟨hl, h1⟩, h2, h3⟩ := h
  rcases h1 with ⟨rfl, rfl⟩ | ⟨g, cap, cur, rfl, hg, hh, hnc, r⟩
  · exact .inl ⟨rfl, none, 0, rfl⟩
  · exact .inr ⟨g, cap, xs, rfl, hg, h2 g rfl, hnc, ⟨hl, .inr ⟨g, cap, cur, rfl, hg, hh, hnc, r⟩⟩, fun o h => absurd h (Nat.not_lt_zero _)⟩
end

/-- The digits of a number, put ahead of a text. -/
def mtGo (k : Nat) (out : ByteArray) : ByteArray := if k = 0 then out else mtGo (k / 10) (strOfNums [48 + (k : Int) % 10] ++ out)
termination_by k
decreasing_by omega
/-- The text of a mark. -/
def mT (k : Int) : ByteArray := if k ≤ 0 then ⟨#[109, 48]⟩ else ⟨#[109]⟩ ++ mtGo k.toNat ⟨#[]⟩
set_option maxRecDepth 100000 in
set_option maxHeartbeats 1600000 in
theorem markText_any (k : Int) (w : World) (hk : k ≤ 4611686018427387904) :
    Calls Try.prog 23 #[.int .i64 k] w fun e w' => e = .returned (.string (mT k)) ∧ Below w.heap.size w w' := by
  by_cases h : k ≤ 0
  · go_enter Try.func23, Try.ntmps23
    go_wp2_with fail
    go_ret
    exact ⟨by rw [mT, if_pos h]; rfl, (by repeat (first | (with_reducible exact Below.refl _ _) | (with_reducible refine below_ov ?_ ?_) | (with_reducible refine Below.setCell ?_ ?_ _) | (with_reducible refine Below.alloc ?_ ?_ _) | (with_reducible refine Below.drew ?_) | (with_reducible refine below_drewN ?_ _) | (refine Below.trans ?_ (Below.mono ‹Below _ _ _› (by first | omega | (simp; done) | (simp; omega)))) | exact Below.refl _ _ | omega | (focus (simp; done)) | (focus (simp; omega))))⟩
  · go_enter Try.func23, Try.ntmps23
    obtain ⟨K, rfl⟩ : ∃ K : Nat, k = K := ⟨k.toNat, by omega⟩
    have HE : Hid (mT (K : Int) = ⟨#[109]⟩ ++ mtGo K ⟨#[]⟩) := by show _ = _; rw [mT, if_neg h]; rfl
    have hcv : ∀ (W : World) (n : Int), (convert 58 9 (.slice (some ⟨W.heap.size, 0, none⟩) 1 1)).run Try.prog (W.alloc (.cells #[.int .u8 n] 5)) = .ok (.string (strOfNums [n])) (W.alloc (.cells #[.int .u8 n] 5)) := fun W n =>
      run_convert_bytes_arg _ 58 5 Try.underlying58 Try.underlying5 W.heap.size 0 1 1 [n] rfl (fun i hi => by
        obtain rfl : i = 0 := by omega
        exact World.cell?_alloc_new _ _ _ _) 9 Try.underlying9
    go_wp2_with fail
    go_loopw [0, 3] (fun n o wr => ∃ (j : Nat) (out : ByteArray), n = .int .i64 j ∧ o = .string out ∧ Hid (mtGo j out = mtGo K ⟨#[]⟩) ∧ j + out.size ≤ K ∧ Below w.heap.size w wr) (fun n _ _ => (intOf n).toNat)
    case atStart => exact ⟨K, ⟨#[]⟩, rfl, rfl, rfl, Nat.le_refl _, Below.refl _ _⟩
    case round =>
      obtain ⟨j, out, rfl, rfl, hj, hs, hb⟩ := hrel
      have hzr := hb.size
      by_cases h0 : 0 < j
      · have hq : ¬ (9223372036854775807 < (strOfNums [48 + (j : Int) % 10]).size + out.size) := by rw [strOfNums_size]; simp; omega
        have hq' : (strOfNums [48 + (j : Int) % 10] ++ out).size = out.size + 1 := by simp [ByteArray.size_append, strOfNums_size]; omega
        have HQ := hide hq'
        have HS : Hid (mtGo (j / 10) (strOfNums [48 + (j : Int) % 10] ++ out) = mtGo K ⟨#[]⟩) := by
          show _ = _
          rw [← hj.out, mtGo.eq_1 j, if_neg (by omega)]
        clear hq'
        go_wp2_with fail
        go_roundw
        case rel => exact ⟨j / 10, _, by go_num, rfl, HS, by rw [HQ.out]; omega, (by repeat (first | (with_reducible exact Below.refl _ _) | (with_reducible refine below_ov ?_ ?_) | (with_reducible refine Below.setCell ?_ ?_ _) | (with_reducible refine Below.alloc ?_ ?_ _) | (with_reducible refine Below.drew ?_) | (with_reducible refine below_drewN ?_ _) | (refine Below.trans ?_ (Below.mono ‹Below _ _ _› (by first | omega | (simp; done) | (simp; omega)))) | exact Below.refl _ _ | omega | (focus (simp; done)) | (focus (simp; omega))))⟩
        case measure => simp [intOf]; omega
      · obtain rfl : j = 0 := by omega
        have HO : Hid (out = mtGo K ⟨#[]⟩) := by
          have := hj.out
          rw [mtGo.eq_1, if_pos rfl] at this
          exact this
        go_wp2_with fail
        go_ret
        exact ⟨by rw [HE.out, ← HO.out]; rfl, hb⟩

end Go.Proofs.Ytkikjneamjmdlaa
