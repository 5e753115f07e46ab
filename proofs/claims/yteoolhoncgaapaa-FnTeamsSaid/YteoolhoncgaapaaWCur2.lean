/-
  Walks: the reference's cursor: a number below a bound; one of a list. Whatever is drawn, it is something.
-/
import Derived.Test.YteoolhoncgaapaaWCur
namespace Go.Proofs.Yteoolhoncgaapaa
set_option linter.unusedVariables false
set_option linter.unusedSimpArgs false
open Go.RowKit

/-- A cursor that has taken at most m bytes. -/
def Cu (w : World) (g m : Nat) : Prop := ∃ a, a ≤ m ∧ Cur w g a
theorem Cu.lt {w : World} {g m : Nat} (h : Cu w g m) : g < w.heap.size := by
  obtain ⟨_, _, h⟩ := h
  exact h.lt
theorem Cu.below {w w' : World} {g m B : Nat} (h : Cu w g m) (hb : Below B w w') (hB : w.heap.size ≤ B) : Cu w' g m := by
  obtain ⟨a, h1, h⟩ := h
  exact ⟨a, h1, h.below hb hB⟩
theorem Cu.alloc {w : World} {g m : Nat} (h : Cu w g m) (o : Obj) : Cu (w.alloc o) g m := h.below ((Below.refl _ _).alloc (Nat.le_refl _) o) (Nat.le_refl _)
theorem Cu.drew {w : World} {g m : Nat} (h : Cu w g m) : Cu w.drew g m := h
theorem Cu.drewN {w : World} {g m : Nat} (h : Cu w g m) (n : Nat) : Cu (w.drewN n) g m := h
theorem Cu.more {w : World} {g m m' : Nat} (h : Cu w g m) (hm : m ≤ m') : Cu w g m' := by
  obtain ⟨a, h1, h⟩ := h
  exact ⟨a, by omega, h⟩
theorem Cu.set {w : World} {g m : Nat} (h : Cu w g m) {p : Addr} (hp : g < p.block) (u : Value) : Cu (w.setCell p u) g m := by
  obtain ⟨a, ha, A, L, cap, f, s, h0, h1, h2, h3, h4, h5, h6, h7, h8⟩ := h
  have hg : (w.setCell p u).heap[g]? = w.heap[g]? := Deep.blk_setCell_other _ _ _ _ (by omega)
  refine ⟨a, ha, A, L, cap, f, s, (World.cell?_of_block (a := ⟨g, 0, none⟩) hg).trans h0, (World.cell?_of_block (a := ⟨g, 1, none⟩) hg).trans h1, (World.cell?_of_block (a := ⟨g, 2, none⟩) hg).trans h2, fun o => (World.frozen?_of_block (a := ⟨g, o, none⟩) hg).trans (h3 o), h4, h5, h6, fun hL => ?_, by simp [World.setCell]; exact h8⟩
  obtain ⟨b, off, e, hne, hlt, hc⟩ := h7 hL
  have hb : (w.setCell p u).heap[b]? = w.heap[b]? := Deep.blk_setCell_other _ _ _ _ (by omega)
  exact ⟨b, off, e, hne, by simp [World.setCell]; exact hlt, fun i hi => (World.cell?_of_block (a := ⟨b, off + i, none⟩) hb).trans (hc i hi)⟩
theorem Only.alloc {lo hi : Nat} {w w' : World} (h : Only lo hi w w') (o : Obj) : Only lo hi w (w'.alloc o) := h.then_below ((Below.refl _ _).alloc (Nat.le_refl _) o)
theorem Only.setNew {lo hi : Nat} {w w' : World} (h : Only lo hi w w') {a : Addr} (h1 : w.heap.size ≤ a.block) (u : Value) : Only lo hi w (w'.setCell a u) := by
  refine ⟨?_, ?_, ?_, ?_, fun k hk hk' => ?_⟩
  · exact (by simp [World.setCell]; exact h.os)
  · exact (by simp [World.setCell]; exact h.tape)
  · exact (by simp [World.setCell]; exact h.output)
  · exact (by simp [World.setCell]; exact h.size)
  · exact (Deep.blk_setCell_other _ _ _ _ (by omega)).trans (h.block k hk hk')
theorem Only.cell {lo hi : Nat} {w w' : World} (h : Only lo hi w w') {p : Addr} (h1 : p.block < w.heap.size) (h2 : p.block < lo ∨ hi ≤ p.block) : w'.cell? p = w.cell? p := World.cell?_of_block (h.block p.block h1 h2)
def isI : Value → Bool
  | .int .i64 _ => true
  | _ => false
theorem isI_int {v : Value} (h : isI v = true) : ∃ x, v = .int .i64 x := by
  unfold isI at h
  split at h
  · exact ⟨_, rfl⟩
  · cases h
theorem nextU (g m : Nat) (w : World) (h : Cu w g m) (hm : m < 1099511627776) :
    Calls Try.prog 75 #[.pointer (some ⟨g, 0, none⟩)] w fun e w' => ∃ v : Int, e = .returned (.int .i64 v) ∧ (0 ≤ v ∧ v ≤ 255) ∧ Cu w' g (m + 1) ∧ Only g (g + 1) w w' := by
  obtain ⟨a, h1, h⟩ := h
  exact (next_any g a w h (by omega)).mono fun e w' ⟨v, h2, h3, h4, h5⟩ => ⟨v, h2, h3, ⟨a + 1, by omega, h4⟩, h5⟩
set_option maxRecDepth 100000 in
set_option maxHeartbeats 1600000 in
theorem pick_any (g m : Nat) (n : Int) (w : World) (h : Cu w g m) (hm : m < 549755813888) :
    Calls Try.prog 61 #[.pointer (some ⟨g, 0, none⟩), .int .i64 n] w fun e w' => ∃ v : Int, e = .returned (.int .i64 v) ∧ (0 ≤ v ∧ (v < n ∨ v = 0)) ∧ Cu w' g (m + 2) ∧ Only g (g + 1) w w' := by
  by_cases h1 : n ≤ 1
  · go_enter Try.func61, Try.ntmps61
    go_wp2_with fail
    go_ret
    exact ⟨0, rfl, ⟨Int.le_refl _, .inr rfl⟩, h.more (by omega), Only.refl _ _ _⟩
  · have hn0 : ¬ n = 0 := by omega
    by_cases h2 : n > 200
    · go_enter Try.func61, Try.ntmps61
      go_wp2_with fail
      refine (nextU g m _ h (by omega)).mono ?_
      rintro e w1 ⟨v, rfl, hv, hc1, ho1⟩
      go_wp2_with fail
      refine (nextU g (m + 1) _ hc1 (by omega)).mono ?_
      rintro e w2 ⟨u, rfl, hu, hc2, ho2⟩
      have z1 : IntKind.i64.wrap (v * 256) = v * 256 := IntWalk.i64_in _ (by omega)
      have z2 : IntKind.i64.wrap (v * 256 + u) = v * 256 + u := IntWalk.i64_in _ (by omega)
      have z3 : (v * 256 + u).tmod n = (v * 256 + u) % n := Int.tmod_eq_emod_of_nonneg (by omega)
      have z4 := Int.emod_nonneg (v * 256 + u) hn0
      have z5 := Int.emod_lt_of_pos (v * 256 + u) (show 0 < n by omega)
      obtain ⟨r, hr⟩ : ∃ r, r = (v * 256 + u) % n := ⟨_, rfl⟩
      rw [← hr] at z3 z4 z5
      clear hr
      go_wp2_with fail
      go_ret
      exact ⟨r, rfl, ⟨z4, .inl z5⟩, hc2, ho1.trans ho2⟩
    · go_enter Try.func61, Try.ntmps61
      go_wp2_with fail
      refine (nextU g m _ h (by omega)).mono ?_
      rintro e w1 ⟨v, rfl, hv, hc1, ho1⟩
      have z3 : v.tmod n = v % n := Int.tmod_eq_emod_of_nonneg (by omega)
      have z4 := Int.emod_nonneg v hn0
      have z5 := Int.emod_lt_of_pos v (show 0 < n by omega)
      obtain ⟨r, hr⟩ : ∃ r, r = v % n := ⟨_, rfl⟩
      rw [← hr] at z3 z4 z5
      clear hr
      go_wp2_with fail
      go_ret
      exact ⟨r, rfl, ⟨z4, .inl z5⟩, hc1.more (by omega), ho1⟩
set_option maxRecDepth 100000 in
set_option maxHeartbeats 1600000 in
theorem among_any (g m b off n cap : Nat) (w : World) (h : Cu w g m) (hm : m < 549755813888) (hn : 0 < n) (hn' : n ≤ 1000000) (hne : b ≠ g) (hb : b < w.heap.size) (hc : ∀ i, i < n → ∃ x, w.cell? ⟨b, off + i, none⟩ = some (.int .i64 x)) :
    Calls Try.prog 60 #[.pointer (some ⟨g, 0, none⟩), .slice (some ⟨b, off, none⟩) n cap] w fun e w' => ∃ v : Int, e = .returned (.int .i64 v) ∧ (∃ i, i < n ∧ w.cell? ⟨b, off + i, none⟩ = some (.int .i64 v)) ∧ Cu w' g (m + 2) ∧ Only g (g + 1) w w' := by
  have HC := hide hc
  clear hc
  go_enter Try.func60, Try.ntmps60
  go_wp2_with fail
  refine (pick_any g m n _ h hm).mono ?_
  rintro e w1 ⟨v, rfl, hv, hc1, ho1⟩
  obtain ⟨k, rfl⟩ : ∃ k : Nat, v = k := ⟨v.toNat, by omega⟩
  have hk : k < n := by omega
  obtain ⟨x, hx⟩ := HC.out k hk
  have ck : w1.cell? ⟨b, off + k, none⟩ = some (.int .i64 x) := (ho1.cell (p := ⟨b, off + k, none⟩) hb (by show b < g ∨ g + 1 ≤ b; omega)).trans hx
  have hs := ho1.size
  have hb1 : b < w1.heap.size := by omega
  have HX : Hid (∃ i, i < n ∧ w.cell? ⟨b, off + i, none⟩ = some (.int .i64 x)) := ⟨k, hk, hx⟩
  clear hx
  go_wp2_with fail
  go_ret
  exact ⟨x, rfl, HX.out, hc1, ho1⟩
/-- One of a list that was just laid. -/
theorem among_new (g m n q : Nat) (w : World) (cs : Array Value) (t : TypeId) (h : Cu w g m) (hq : q = w.heap.size) (hm : m < 549755813888) (hn : cs.size = n) (hn0 : 0 < n) (hn' : n ≤ 1000000) (hall : cs.all isI = true) :
    Calls Try.prog 60 #[.pointer (some ⟨g, 0, none⟩), .slice (some ⟨q, 0, none⟩) n n] (w.alloc (.cells cs t)) fun e w' => ∃ v : Int, e = .returned (.int .i64 v) ∧ (.int .i64 v) ∈ cs.toList ∧ Cu w' g (m + 2) ∧ Only g (g + 1) w w' := by
  subst hq
  have hlt := h.lt
  refine (among_any g m w.heap.size 0 n n _ (h.alloc _) hm hn0 hn' (by omega) (by simp) fun i hi => ?_).mono fun e w' ⟨v, h1, ⟨i, hi, hv⟩, h2, h3⟩ => ⟨v, h1, ?_, h2, ((Only.refl _ _ w).alloc _).trans h3⟩
  rotate_left
  · rw [Nat.zero_add, World.cell?_alloc_new] at hv
    exact Array.mem_toList_iff.2 (Array.mem_of_getElem? hv)
  have hi' : i < cs.size := by omega
  have h1 := (Array.all_eq_true.1 hall) i hi'
  obtain ⟨x, hx⟩ := isI_int h1
  refine ⟨x, ?_⟩
  rw [Nat.zero_add, World.cell?_alloc_new]
  rw [Array.getElem?_eq_getElem hi', hx]
set_option maxRecDepth 100000 in
set_option maxHeartbeats 1600000 in
theorem one_any (g m : Nat) (n : Int) (w : World) (h : Cu w g m) (hm : m < 549755813888) :
    Calls Try.prog 63 #[.pointer (some ⟨g, 0, none⟩), .int .i64 n] w fun e w' => ∃ b : Bool, e = .returned (.bool b) ∧ Cu w' g (m + 2) ∧ Only g (g + 1) w w' := by
  go_enter Try.func63, Try.ntmps63
  go_wp2_with fail
  refine (pick_any g m n _ h hm).mono ?_
  rintro e w1 ⟨v, rfl, hv, hC, hO⟩
  go_wp2_with fail
  go_ret
  exact ⟨_, rfl, hC, hO⟩

end Go.Proofs.Yteoolhoncgaapaa
